/-
  latchetref01.Dec: what it computes: strconv.Itoa's numeral.
-/
import Derived.Test.YtmjcpapcmbgkjaaDoorM4
import Derived.Test.YtmjcpapcmbgkjaaDoorRows
import Derived.Test.YtmjcpapcmbgkjaaDoorM1
import Derived.Deep.QuietTactic
import Derived.BigQuiet
import Derived.Test.YtmjcpapcmbgkjaaDoorM2
import Derived.Test.YtmjcpapcmbgkjaaDoorM3
set_option linter.unusedVariables false
set_option linter.unusedSimpArgs false
namespace Go.Proofs.YtmjcpapcmbgkjaaDoor
open Go.RowKit

theorem decLen : ∀ (k u : Nat), u < 10 ^ (k + 1) → (Lib.decDigits u).length ≤ k + 1
  | 0, u, h => by rw [Lib.decDigits, dif_pos (by simpa using h)]; simp
  | k + 1, u, h => by
    by_cases hu : u < 10
    · rw [Lib.decDigits, dif_pos hu]; simp
    · rw [Lib.decDigits, dif_neg hu]
      have := decLen k (u / 10) (by rw [Nat.pow_succ] at h; omega)
      simp; omega

theorem itoaLen {n : Int} (h1 : -9223372036854775808 ≤ n) (h2 : n ≤ 9223372036854775807) : (Lib.itoa n).length ≤ 21 := by
  have h := decLen 19 n.natAbs (by omega)
  unfold Lib.itoa
  split
  · simp; omega
  · have e : n.toNat = n.natAbs := by omega
    rw [e]; omega

theorem itoa_one {n : Int} (h0 : ¬ n < 0) (h : n < 10) : Lib.itoa n = [UInt8.ofNat (48 + n.toNat)] := by
  unfold Lib.itoa; rw [if_neg h0, Lib.decDigits, dif_pos (by omega)]

theorem itoa_more {n : Int} (h : ¬ n < 10) : Lib.itoa n = Lib.itoa (n / 10) ++ [UInt8.ofNat (48 + (n % 10).toNat)] := by
  unfold Lib.itoa
  rw [if_neg (by omega), if_neg (by omega)]
  conv => lhs; rw [Lib.decDigits, dif_neg (by omega)]
  rw [show (n / 10).toNat = n.toNat / 10 from by omega, show (n % 10).toNat = n.toNat % 10 from by omega]

theorem itoa_neg1 {n : Int} (h : n < 0) (h1 : -10 < n) : Lib.itoa n = 45 :: [UInt8.ofNat (48 - n).toNat] := by
  unfold Lib.itoa
  rw [if_pos h, Lib.decDigits, dif_pos (by omega), show (48 - n).toNat = 48 + n.natAbs from by omega]

theorem itoa_negm {n : Int} (h1 : n ≤ -10) : Lib.itoa n = Lib.itoa (n.tdiv 10) ++ [UInt8.ofNat (48 - n.tmod 10).toNat] := by
  obtain ⟨m, rfl⟩ : ∃ m : Nat, n = -(m : Int) := ⟨n.natAbs, by omega⟩
  rw [Int.neg_tdiv, Int.neg_tmod, Int.tdiv_eq_ediv_of_nonneg (by omega), Int.tmod_eq_emod_of_nonneg (by omega)]
  unfold Lib.itoa
  rw [if_pos (by omega), if_pos (by omega)]
  conv => lhs; rw [Lib.decDigits, dif_neg (by omega)]
  rw [show (-((m : Int) / 10)).natAbs = (-(m : Int)).natAbs / 10 from by omega, show (48 - -((m : Int) % 10)).toNat = 48 + (-(m : Int)).natAbs % 10 from by omega]
  rfl

/-- 'string([]byte{b})', wherever the cell lies -/
theorem one_string_at {E : Nat} (hE : E < 256) {k : Nat} {u : World} (h : u.cell? ⟨k, 0, none⟩ = some (.int .u8 (E : Int))) :
    (convert 47 9 (.slice (some ⟨k, 0, none⟩) 1 1)).run Tryd.prog u = .ok (.string ⟨#[UInt8.ofNat E]⟩) u := by
  have h := run_convert_bytes_back (P := Tryd.prog) u 47 9 5 ⟨k, 0, none⟩ 1 [UInt8.ofNat E] Tryd.underlying47 Tryd.underlying5 Tryd.underlying9 (fun j hj => by
    have hj0 : j = 0 := by simpa using hj
    subst hj0
    rw [add_plain', Nat.zero_add]
    refine h.trans ?_
    simp [ofNat_toNat hE])
  exact h

theorem one_string_v {V : Int} {E : Nat} (hE : E < 256) (hV : V = E) (u : World) :
    (convert 47 9 (.slice (some ⟨u.heap.size, 0, none⟩) 1 1)).run Tryd.prog (u.alloc (.cells #[.int .u8 V] 5)) = .ok (.string ⟨#[UInt8.ofNat E]⟩) (u.alloc (.cells #[.int .u8 V] 5)) := by
  subst hV; exact one_string E hE u

theorem one_kept {V : Int} {E : Nat} (hE : E < 256) (hV : V = E) {u w1 : World} (hK : Kp (fun _ => False) (u.alloc (.cells #[.int .u8 V] 5)).drew w1) :
    (convert 47 9 (.slice (some ⟨u.heap.size, 0, none⟩) 1 1)).run Tryd.prog w1 = .ok (.string ⟨#[UInt8.ofNat E]⟩) w1 := by
  subst hV
  refine one_string_at hE ?_
  have hb : w1.heap[u.heap.size]? = (u.alloc (.cells #[.int .u8 (E : Int)] 5)).heap[u.heap.size]? := Kp.block hK u.heap.size (by simp) (fun h => h)
  exact (World.cell?_of_block (a := ⟨u.heap.size, 0, none⟩) hb).trans (World.cell?_alloc_at _ _ _ _ rfl)

set_option maxHeartbeats 2000000 in
set_option maxRecDepth 100000 in
theorem ref_Dec_any (k : Nat) : ∀ (n : Int) (w : World), n.natAbs ≤ k → -9223372036854775808 ≤ n → n ≤ 9223372036854775807 →
    Calls Tryd.prog 40 #[.int .i64 n] w fun e w' => e = .returned (.string ⟨(Lib.itoa n).toArray⟩) ∧ Kp (fun _ => False) w w' := by
  induction k using Nat.strongRecOn with
  | _ k ih =>
    intro n w hk h1 h2
    by_cases hneg : n < 0
    · by_cases hs : -10 < n
      · have HI := Lib.hid (itoa_neg1 hneg hs)
        have hq : n.tdiv 10 = 0 := by
          obtain ⟨m, rfl⟩ : ∃ m : Nat, n = -(m : Int) := ⟨n.natAbs, by omega⟩
          rw [Int.neg_tdiv, Int.tdiv_eq_ediv_of_nonneg (by omega)]; omega
        obtain ⟨E, hE, hE2⟩ : ∃ E : Nat, 48 - n = (E : Int) ∧ E = (48 - n).toNat := ⟨(48 - n).toNat, by omega, rfl⟩
        have hE3 : E < 256 := by omega
        have HE2 := Lib.hid hE2; clear hE2
        have hcv := one_string E hE3
        clear ih
        go_enter Tryd.func40, Tryd.ntmps40
        go_wp2_with fail
        go_ret
        refine ⟨congrArg (fun x => Ending.returned (Value.string x)) ((cat_bytes [45] [UInt8.ofNat E]).trans ?_), (Kp.refl _ w).alloc _⟩
        rw [HI.out, HE2.out]; rfl
      · have HI := Lib.hid (itoa_negm (n := n) (by omega))
        obtain ⟨q, r, hq, hr, h10⟩ : ∃ q r : Int, n.tdiv 10 = q ∧ n.tmod 10 = r ∧ (q ≤ -1 ∧ n ≤ q ∧ n < q ∧ -9 ≤ r ∧ r ≤ 0) := by
          refine ⟨_, _, rfl, rfl, ?_⟩
          obtain ⟨m, rfl⟩ : ∃ m : Nat, n = -(m : Int) := ⟨n.natAbs, by omega⟩
          rw [Int.neg_tdiv, Int.neg_tmod, Int.tdiv_eq_ediv_of_nonneg (by omega), Int.tmod_eq_emod_of_nonneg (by omega)]; omega
        obtain ⟨E, hE2⟩ : ∃ E : Nat, E = (48 - r).toNat := ⟨_, rfl⟩
        have hE3 : E < 256 := by omega
        have hV : IntKind.wrap .u8 (IntKind.wrap .i64 (48 - r)) = (E : Int) := by
          rw [wrap_small _ (by omega) (by omega)]; unfold IntKind.wrap; simp [IntKind.bits, IntKind.signed]; omega
        have HE2 := Lib.hid hE2; clear hE2
        have HV := Lib.hid hV; clear hV
        have hcv := one_string_v hE3 HV.out
        have hcd := one_kept hE3 HV.out (Kp.refl _ (w.alloc (.cells #[.int .u8 (IntKind.wrap .u8 (IntKind.wrap .i64 (48 - r)))] 5)).drew)
        have hlen : ¬ 9223372036854775807 < (Lib.itoa q).length + 1 := by have := itoaLen (n := q) (by omega) (by omega); omega
        have hwq : IntKind.wrap .i64 q = q := hq ▸ wrap_i64_tdiv n 10 h1 h2 (by omega)
        have hrec : ∀ u : World, Calls Tryd.prog 40 #[.int .i64 q] u fun e w' => e = .returned (.string ⟨(Lib.itoa q).toArray⟩) ∧ Kp (fun _ => False) u w' :=
          fun u => ih q.natAbs (by omega) _ u (Nat.le_refl _) (by omega) (by omega)
        have hfin : ∀ w1, Kp (fun _ => False) w w1 → Ending.returned (Value.string ((⟨(Lib.itoa q).toArray⟩ : ByteArray) ++ ⟨#[UInt8.ofNat E]⟩)) = Ending.returned (.string ⟨(Lib.itoa n).toArray⟩) ∧ Kp (fun _ => False) w w1 :=
          fun w1 h => ⟨congrArg (fun x => Ending.returned (Value.string x)) ((cat_bytes _ [UInt8.ofNat E]).trans (by rw [HI.out, HE2.out, hq, hr])), h⟩
        have h0 : ¬ q = 0 := by omega
        clear ih
        go_enter Tryd.func40, Tryd.ntmps40
        go_wp2_with fail
        go_region_with (go_at_call 40; refine (hrec _).mono ?_; rintro e w1 ⟨rfl, hK1⟩; try have hcw : (convert 47 9 (.slice (some ⟨w.heap.size, 0, none⟩) 1 1)).run Tryd.prog w1 = _ := one_kept hE3 HV.out hK1)
        all_goals (go_wp2_with fail)
        all_goals go_ret
        · exact hfin _ ((Kp.trans (Kp.drew (Kp.refl _ w)) hK1 (fun _ _ h => h)).alloc _)
        · exact hfin _ (Kp.trans (Kp.drew (Kp.alloc (Kp.refl _ w) _)) hK1 (fun _ _ h => h))
        · exact hfin _ (Kp.trans (Kp.drew (Kp.alloc (Kp.refl _ w) _)) hK1 (fun _ _ h => h))
    by_cases hs : n < 10
    · have HI := Lib.hid (itoa_one hneg hs)
      obtain ⟨m, rfl⟩ : ∃ m : Nat, n = m := ⟨n.toNat, by omega⟩
      have hm : m < 10 := by omega
      obtain ⟨E, hE, hE2⟩ : ∃ E : Nat, 48 + (m : Int) = (E : Int) ∧ E = 48 + m := ⟨48 + m, by omega, rfl⟩
      have hE3 : E < 256 := by omega
      have HE2 := Lib.hid hE2; clear hE2
      have hcv := one_string E hE3
      go_enter Tryd.func40, Tryd.ntmps40
      go_wp2_with fail
      go_ret
      refine ⟨?_, (Kp.refl _ w).alloc _⟩
      rw [HI.out, HE2.out]; rfl
    · have HI := Lib.hid (itoa_more hs)
      obtain ⟨m, rfl⟩ : ∃ m : Nat, n = m := ⟨n.toNat, by omega⟩
      have hm : ¬ m < 10 := by omega
      obtain ⟨E, hE2⟩ : ∃ E : Nat, E = 48 + m % 10 := ⟨_, rfl⟩
      have hE3 : E < 256 := by omega
      have hV : IntKind.wrap .u8 (IntKind.wrap .i64 (48 + (m : Int).tmod 10)) = (E : Int) := by
        rw [Int.tmod_eq_emod_of_nonneg (by omega), wrap_small _ (by omega) (by omega)]; unfold IntKind.wrap; simp [IntKind.bits, IntKind.signed]; omega
      have HE2 := Lib.hid hE2; clear hE2
      have HV := Lib.hid hV; clear hV
      have hcv := one_string_v hE3 HV.out
      have hcd := one_kept hE3 HV.out (Kp.refl _ (w.alloc (.cells #[.int .u8 (IntKind.wrap .u8 (IntKind.wrap .i64 (48 + (m : Int).tmod 10)))] 5)).drew)
      have hlen : ¬ 9223372036854775807 < (Lib.itoa ((m : Int) / 10)).length + 1 := by have := itoaLen (n := (m : Int) / 10) (by omega) (by omega); omega
      have hwq : IntKind.wrap .i64 ((m : Int) / 10) = (m : Int) / 10 := wrap_small _ (by omega) (by omega)
      have hrec : ∀ u : World, Calls Tryd.prog 40 #[.int .i64 (IntKind.wrap .i64 ((m : Int) / 10))] u fun e w' => e = .returned (.string ⟨(Lib.itoa ((m : Int) / 10)).toArray⟩) ∧ Kp (fun _ => False) u w' :=
        fun u => by rw [hwq]; exact ih ((m : Int) / 10).natAbs (by omega) _ u (Nat.le_refl _) (by omega) (by omega)
      have hfin : ∀ w1, Kp (fun _ => False) w w1 → Ending.returned (Value.string ((⟨(Lib.itoa ((m : Int) / 10)).toArray⟩ : ByteArray) ++ ⟨#[UInt8.ofNat E]⟩)) = Ending.returned (.string ⟨(Lib.itoa (m : Int)).toArray⟩) ∧ Kp (fun _ => False) w w1 :=
        fun w1 h => ⟨congrArg (fun x => Ending.returned (Value.string x)) ((cat_bytes _ [UInt8.ofNat E]).trans (by rw [HI.out, HE2.out, show ((m : Int) % 10).toNat = m % 10 from by omega])), h⟩
      clear ih hwq
      go_enter Tryd.func40, Tryd.ntmps40
      go_wp2_with fail
      go_region_with (go_at_call 40; refine (hrec _).mono ?_; rintro e w1 ⟨rfl, hK1⟩; try have hcw : (convert 47 9 (.slice (some ⟨w.heap.size, 0, none⟩) 1 1)).run Tryd.prog w1 = _ := one_kept hE3 HV.out hK1)
      all_goals (go_wp2_with fail)
      all_goals go_ret
      · exact hfin _ ((Kp.trans (Kp.drew (Kp.refl _ w)) hK1 (fun _ _ h => h)).alloc _)
      · exact hfin _ (Kp.trans (Kp.drew (Kp.alloc (Kp.refl _ w) _)) hK1 (fun _ _ h => h))
      · exact hfin _ (Kp.trans (Kp.drew (Kp.alloc (Kp.refl _ w) _)) hK1 (fun _ _ h => h))

theorem ref_Dec (n : Int) (w : World) (h1 : -9223372036854775808 ≤ n) (h2 : n ≤ 9223372036854775807) :
    Calls Tryd.prog 40 #[.int .i64 n] w fun e w' => e = .returned (.string ⟨(Lib.itoa n).toArray⟩) ∧ Kp (fun _ => False) w w' :=
  ref_Dec_any n.natAbs n w (Nat.le_refl _) h1 h2

end Go.Proofs.YtmjcpapcmbgkjaaDoor

/-
  latchetref02.Ints: whether two lists of ints are one.
-/
namespace Go.Proofs.YtmjcpapcmbgkjaaDoor
open Go.RowKit

theorem ints_ext {l l' : List Int} (hl : l.length = l'.length) (h : ∀ j, j < l.length → gi l j = gi l' j) : l = l' := by
  apply List.ext_getElem?
  intro j
  by_cases hj : j < l.length
  · have := h j hj
    unfold gi at this
    rw [List.getElem?_eq_getElem hj, List.getElem?_eq_getElem (by omega)] at this ⊢
    simpa using this
  · rw [List.getElem?_eq_none (by omega), List.getElem?_eq_none (by omega)]

set_option maxHeartbeats 400000 in
theorem ref_Ints (a a' : Option Addr) (n n' cap cap' : Nat) (l l' : List Int) (w : World) (ha : IntsAt w a l) (ha' : IntsAt w a' l') (hl : l.length = n) (hl' : l'.length = n') (hn : n ≤ 9223372036854775807) :
    Calls Tryd.prog 27 #[.slice a n cap, .slice a' n' cap'] w fun e w' => e = .returned (.bool (l == l')) ∧ ∃ n, w' = w.drewN n := by
  have HL := Lib.hid hl; clear hl
  have HL' := Lib.hid hl'; clear hl'
  by_cases hne : n = n'
  · subst hne
    have b1 : ((n : Int) != (n : Int)) = false := by simp
    go_enter Tryd.func27, Tryd.ntmps27
    go_wp2
    go_loopw [5] (fun i wr => ∃ k m : Nat, k ≤ n ∧ i = .int .i64 k ∧ (∀ j, j < k → gi l j = gi l' j) ∧ wr = w.drewN m) (fun i _ => n - (intOf i).toNat)
    case atStart => exact ⟨0, 0, Nat.zero_le _, rfl, fun j hj => by omega, rfl⟩
    case round =>
      obtain ⟨k, m, hk, rfl, he, rfl⟩ := hrel
      have HE := Lib.hid he
      clear he
      by_cases hlt : k < n
      · obtain ⟨b, off, rfl, hc⟩ := ha.get (j := k) (by rw [HL.out]; exact hlt)
        obtain ⟨b', off', rfl, hc'⟩ := ha'.get (j := k) (by rw [HL'.out]; exact hlt)
        have i1 : (0 : Int) ≤ (k : Int) := by omega
        have i2 : (k : Int) < (n : Int) := by omega
        by_cases hq : gi l k = gi l' k
        · have q1 : (gi l k != gi l' k) = false := by simp [hq]
          have HQ := Lib.hid hq
          clear hq
          go_wp2
          go_quiet (fail)
          go_wp2
          go_roundw
          case rel =>
            refine ⟨k + 1, _, by omega, by go_num, fun j hj => ?_, rfl⟩
            by_cases e : j = k
            · subst e; exact HQ.out
            · exact HE.out j (by omega)
          case measure => simp [intOf]; omega
        · have q1 : (gi l k != gi l' k) = true := by simp [hq]
          have HQ := Lib.hid hq
          clear hq
          go_wp2
          go_quiet (fail)
          go_wp2
          go_ret
          have e : (l == l') = false := by
            rw [beq_eq_false_iff_ne]
            intro e
            exact HQ.out (by rw [e])
          rw [e]
          exact ⟨rfl, _, World.drewN_drewN ..⟩
      · go_wp2
        go_ret
        have e : (l == l') = true := by
          rw [beq_iff_eq]
          exact ints_ext (by rw [HL.out, HL'.out]) (fun j hj => HE.out j (by rw [HL.out] at hj; omega))
        rw [e]
        exact ⟨rfl, _, rfl⟩
  · have b1 : ((n : Int) != (n' : Int)) = true := by simp; omega
    have e : Hid ((l == l') = false) := by
      show _ = _
      rw [beq_eq_false_iff_ne]
      intro e
      exact hne (by rw [← HL.out, ← HL'.out, e])
    clear hne
    go_enter Tryd.func27, Tryd.ntmps27
    go_wp2
    go_ret
    rw [e.out]
    exact ⟨rfl, 0, rfl⟩

end Go.Proofs.YtmjcpapcmbgkjaaDoor

/-
  What binary.Write keeps: the builder and the text so far.
-/
namespace Go.Proofs.YtmjcpapcmbgkjaaDoor
open Go.RowKit

theorem wsb_kp {T e : TypeId} {B b : Nat} {bs : List Value} {w w' : World} (h : Lib.IsBuilder T e B b bs w) (k : Kp (fun _ => False) w w') : Lib.IsBuilder T e B b bs w' := by
  have go : ∀ p, Lib.BuilderAt T e B b p bs w → Lib.BuilderAt T e B b p bs w' := by
    rintro p ⟨hB, v, hb, hown, hne⟩
    exact ⟨hB, v, (k.block b (Array.getElem?_eq_some_iff.1 hb).1 (fun h => h)).trans hb, Own.kp (cs := bs) hown k (fun _ _ h => h), hne⟩
  rcases h with h | h
  · exact .inl (go _ h)
  · exact .inr (go _ h)

/-- the circuit's own copy, the builder at B, the text l in it -/
structure WS (w wr : World) (B : Nat) (V : CV) (C : Circ) (l : List UInt8) : Prop where
  c : Blk wr w.heap.size (cvals V C) 27
  b : Lib.IsBuilder 49 5 B B (Lib.byteCells l) wr
  lt : w.heap.size < B
  bw : B < wr.heap.size
  kp : Kp (fun _ => False) w wr

section
variable {w wr w' : World} {B : Nat} {V : CV} {C : Circ} {l : List UInt8}
theorem WS.kp' (h : WS w wr B V C l) (k : Kp (fun _ => False) wr w') : WS w w' B V C l :=
  ⟨h.c.kp k (fun h => h), wsb_kp h.b k, h.lt, by have := h.bw; have := k.size; omega, h.kp.trans k (fun _ _ h => h)⟩
theorem WS.start {w1 : World} (hc : Blk w1 w.heap.size (cvals V C) 27) (hk : Kp (fun _ => False) w w1) : WS w (w1.alloc (.cells #[.pointer none, .slice none 0 0] 49)) w1.heap.size V C [] :=
  ⟨hc.alloc _, Lib.fresh_isBuilder _ _ _, hc.lt, by simp, hk.alloc _⟩
theorem WS.wrote (h : WS w wr B V C l) {m : List UInt8} (hb : Lib.BuilderAt 49 5 B B (.pointer (some ⟨B, 0, none⟩)) (Lib.byteCells m) w') (hw : Below B wr w') (hk : Kp (BFr B wr) wr w') : WS w w' B V C m :=
  ⟨h.c.kp hk (BFr.not h.c (by have := h.lt; omega) (by decide)), .inr hb, h.lt, by have := h.bw; have := hk.size; omega,
    h.kp.trans (show Kp (fun j => B ≤ j) wr w' from ⟨hw.os, hw.tape, hw.output, hw.size, fun k hk hS => hw.block k (by omega)⟩) (fun j hj e => by have := h.lt; have e2 : B ≤ j := e; omega)⟩
/-- a block of the walk's own that no write to the builder turns -/
theorem WS.other (h : WS w wr B V C l) {b : Nat} {c : Array Value} {t : TypeId} (hb : Blk wr b c t) (hB : B ≠ b) (ht : t ≠ 5) (hk : Kp (BFr B wr) wr w') : Blk w' b c t := hb.kp hk (BFr.not hb (fun e => hB e.symm) ht)
theorem ws_str (h : WS w wr B V C l) (T : List UInt8) (s : ByteArray) (hs : s = ⟨T.toArray⟩) (hl : l.length + T.length ≤ 1000000000) :
    Calls Tryd.prog 16 #[.pointer (some ⟨B, 0, none⟩), .string s] wr fun e w' => (∃ v, e = .returned v) ∧ WS w w' B V C (l ++ T) ∧ Kp (BFr B wr) wr w' := by
  subst hs
  refine (bld_stringK B B (Lib.byteCells l) ⟨T.toArray⟩ wr h.b (by rw [Lib.byteCells_length, show (⟨T.toArray⟩ : ByteArray).size = T.length by show T.toArray.size = _; simp]; omega) (by have := h.bw; omega)).mono ?_
  rintro e w' ⟨rfl, hb, hw, hk⟩
  refine ⟨⟨_, rfl⟩, h.wrote ?_ hw hk, hk⟩
  rw [Lib.byteCells_append]
  exact hb
theorem ws_byte (h : WS w wr B V C l) (hl : l.length ≤ 1000000000) :
    Calls Tryd.prog 18 #[.pointer (some ⟨B, 0, none⟩), .int .u8 10] wr fun e w' => (∃ v, e = .returned v) ∧ WS w w' B V C (l ++ [10]) ∧ Kp (BFr B wr) wr w' := by
  refine (bld_byteK B B (Lib.byteCells l) 10 wr h.b (by rw [Lib.byteCells_length]; omega) (by have := h.bw; omega)).mono ?_
  rintro e w' ⟨rfl, hb, hw, hk⟩
  refine ⟨⟨_, rfl⟩, h.wrote ?_ hw hk, hk⟩
  rw [Lib.byteCells_append]
  exact hb
theorem ws_end (h : WS w wr B V C l) : Calls Tryd.prog 20 #[.pointer (some ⟨B, 0, none⟩)] wr fun e w' => e = .returned (.string ⟨l.toArray⟩) ∧ Kp (fun _ => False) w w' := by
  refine (Tryd.Builder_String_any _ _ _ _ h.b (by have := h.bw; omega)).mono ?_
  rintro e w' ⟨rfl, hw⟩
  exact ⟨rfl, h.kp.trans (show Kp (fun j => B ≤ j) wr w' from ⟨hw.os, hw.tape, hw.output, hw.size, fun k hk hS => hw.block k (by omega)⟩) (fun j hj e => by have := h.lt; have e2 : B ≤ j := e; omega)⟩
end

def wl (C : Circ) : Nat → List Int
  | 0 => C.outs
  | 1 => C.bads
  | _ => C.cons
def wtx (C : Circ) (k : Nat) : List UInt8 := C.lats.flatMap latB ++ (List.range k).flatMap (fun i => (wl C i).flatMap oneB)
theorem wtx_zero (C : Circ) : wtx C 0 = C.lats.flatMap latB := by simp [wtx]
theorem wtx_succ (C : Circ) (k : Nat) : wtx C (k + 1) = wtx C k ++ (wl C k).flatMap oneB := by
  unfold wtx; rw [List.range_succ, List.flatMap_append]; simp
theorem wtx_all (C : Circ) : binB C = wtx C 3 ++ C.gates.flatMap gateB := by
  rw [wtx_succ, wtx_succ, wtx_succ, wtx_zero]; unfold binB; rfl

theorem flat_len {α : Type} {f : α → List UInt8} {m : Nat} : ∀ {L : List α}, (∀ x ∈ L, (f x).length ≤ m) → (L.flatMap f).length ≤ L.length * m
  | [], _ => by simp
  | x :: L, h => by
    rw [List.flatMap_cons, List.length_append, List.length_cons, Nat.succ_mul]
    have h1 := h x (by simp)
    have h2 := flat_len (L := L) (fun y hy => h y (by simp [hy]))
    omega

section
variable {C : Circ} (h : NormC C) (hf : CFew C 1000000)
include h hf
theorem norm_max : C.max ≤ 3000000 := by
  have h1 := h.max
  rw [owned_len] at h1
  have := hf.i
  have := hf.l
  have := hf.g
  omega
theorem norm_use {x : Int} (hx : x ∈ C.used) : 0 ≤ x ∧ x ≤ 6000001 := by
  have h1 := h.good.rng.use x hx
  have h2 := norm_max h hf
  omega
theorem norm_wl {k : Nat} {x : Int} (hx : x ∈ wl C k) : 0 ≤ x ∧ x ≤ 6000001 := by
  refine norm_use h hf ?_
  unfold Circ.used
  match k, hx with
  | 0, hx => have : x ∈ C.outs := hx; simp [this]
  | 1, hx => have : x ∈ C.bads := hx; simp [this]
  | k + 2, hx => have : x ∈ C.cons := hx; simp [this]
theorem norm_lat {k : Nat} (hk : k < C.lats.length) : (0 ≤ (g3 C.lats k).2.1 ∧ (g3 C.lats k).2.1 ≤ 6000001) ∧ 0 ≤ (g3 C.lats k).2.2 ∧ (g3 C.lats k).2.2 ≤ 6000001 := by
  have hm := g3_mem hk
  have h1 := norm_use h hf (x := (g3 C.lats k).2.1) (by unfold Circ.used; simp only [List.mem_append, List.mem_map]; exact .inl (.inr ⟨_, hm, rfl⟩))
  have h2 := h.good.rng.res _ hm
  have h3 := h.good.rng.own (g3 C.lats k).1 (by unfold Circ.owned; simp only [List.mem_append, List.mem_map]; exact .inl (.inr ⟨_, hm, rfl⟩))
  have h4 := norm_max h hf
  refine ⟨h1, ?_⟩
  omega
theorem norm_gate {k : Nat} (hk : k < C.gates.length) : 0 ≤ (g3 C.gates k).2.2 ∧ (g3 C.gates k).2.2 ≤ (g3 C.gates k).2.1 ∧ (g3 C.gates k).2.1 < (g3 C.gates k).1 ∧ (g3 C.gates k).1 ≤ 6000001 := by
  have hm := g3_mem hk
  have h1 := norm_use h hf (x := (g3 C.gates k).2.2) (by unfold Circ.used; simp only [List.mem_append, List.mem_flatMap]; exact .inr ⟨_, hm, by simp⟩)
  have h2 := h.gate _ hm
  have h3 := h.good.rng.own (g3 C.gates k).1 (by unfold Circ.owned; simp only [List.mem_append, List.mem_map]; exact .inr ⟨_, hm, rfl⟩)
  have h4 := norm_max h hf
  omega
end

theorem latB_len {x : Int × Int × Int} (h : (0 ≤ x.2.1 ∧ x.2.1 ≤ 6000001) ∧ 0 ≤ x.2.2 ∧ x.2.2 ≤ 6000001) : (latB x).length ≤ 44 := by
  have h1 := itoaLen (n := x.2.1) (by omega) (by omega)
  have h2 := itoaLen (n := x.2.2) (by omega) (by omega)
  unfold latB lineB
  split <;> simp <;> omega
theorem oneB_len {x : Int} (h : 0 ≤ x ∧ x ≤ 6000001) : (oneB x).length ≤ 22 := by
  have h1 := itoaLen (n := x) (by omega) (by omega)
  unfold oneB
  simp; omega
theorem gateB_len (x : Int × Int × Int) : (gateB x).length ≤ 12 := by
  have h1 := numL_length 5 (x.1 - x.2.1).toNat
  have h2 := numL_length 5 (x.2.1 - x.2.2).toNat
  unfold gateB
  rw [List.length_append]; omega

section
variable {C : Circ} (h : NormC C) (hf : CFew C 1000000)
include h hf
theorem lats_len (k : Nat) : ((C.lats.take k).flatMap latB).length ≤ 44000000 := by
  have := flat_len (f := latB) (m := 44) (L := C.lats.take k) (fun x hx => by
    obtain ⟨i, hi⟩ := List.mem_iff_getElem?.1 (List.mem_of_mem_take hx)
    have hl : i < C.lats.length := (List.getElem?_eq_some_iff.1 hi).1
    have h1 := norm_lat h hf hl
    rw [g3_some hl] at hi
    rw [Option.some.inj hi] at h1
    exact latB_len h1)
  have h2 := hf.l
  rw [List.length_take] at this
  omega
theorem wl_len (k j : Nat) : (((wl C k).take j).flatMap oneB).length ≤ 22000000 := by
  have := flat_len (f := oneB) (m := 22) (L := (wl C k).take j) (fun x hx => oneB_len (norm_wl h hf (List.mem_of_mem_take hx)))
  have h2 : (wl C k).length ≤ 1000000 := by
    match k with
    | 0 => exact hf.o
    | 1 => exact hf.b
    | k + 2 => exact hf.c
  rw [List.length_take] at this
  omega
theorem wtx_len (k : Nat) : (wtx C k).length ≤ 44000000 + k * 22000000 := by
  induction k with
  | zero =>
    rw [wtx_zero]
    have := lats_len h hf C.lats.length
    rw [List.take_length] at this
    omega
  | succ k ih =>
    rw [wtx_succ, List.length_append]
    have := wl_len h hf k (wl C k).length
    rw [List.take_length] at this
    omega
omit h in
theorem gates_len (k : Nat) : ((C.gates.take k).flatMap gateB).length ≤ 12000000 := by
  have := flat_len (f := gateB) (m := 12) (L := C.gates.take k) (fun x _ => gateB_len x)
  have h2 := hf.g
  rw [List.length_take] at this
  omega
end

/-- the three lists that are written alike -/
theorem wcell {w : World} {V : CV} {C : Circ} (h : CAt w V C) {k : Nat} (hk : k < 3) :
    ∃ a n c, (#[.slice V.ao C.outs.length V.co, .slice V.ab C.bads.length V.cb, .slice V.ac C.cons.length V.cc] : Array Value)[k]? = some (.slice a n c) ∧ (wl C k).length = n ∧ IntsAt w a (wl C k) := by
  match k, hk with
  | 0, _ => exact ⟨_, _, _, rfl, rfl, h.o⟩
  | 1, _ => exact ⟨_, _, _, rfl, rfl, h.b⟩
  | 2, _ => exact ⟨_, _, _, rfl, rfl, h.c⟩

end Go.Proofs.YtmjcpapcmbgkjaaDoor

/-
  binary.Write. (Printed by mkbinwrite.py.)
-/
namespace Go.Proofs.YtmjcpapcmbgkjaaDoor
open Go.RowKit

theorem bin_Normal_yes (V : CV) (C : Circ) (w : World) (h : CAt w V C) (hf : CFew C 1000000) (hM : -9223372036854775808 ≤ C.max ∧ C.max ≤ 9223372036854775807) (hN : NormC C) :
    Calls Tryd.prog 9 #[.agg (cvals V C)] w fun e w' => e = .returned (.bool true) ∧ Kp (fun _ => False) w w' := by
  refine (bin_Normal V C w h hf hM).mono ?_
  rintro e w' ⟨r, rfl, hr, hK⟩
  rw [hr.2 hN]
  exact ⟨rfl, hK⟩
theorem bin_Normal_no (V : CV) (C : Circ) (w : World) (h : CAt w V C) (hf : CFew C 1000000) (hM : -9223372036854775808 ≤ C.max ∧ C.max ≤ 9223372036854775807) (hN : ¬ NormC C) :
    Calls Tryd.prog 9 #[.agg (cvals V C)] w fun e w' => e = .returned (.bool false) ∧ Kp (fun _ => False) w w' := by
  refine (bin_Normal V C w h hf hM).mono ?_
  rintro e w' ⟨r, rfl, hr, hK⟩
  cases r with
  | false => exact ⟨rfl, hK⟩
  | true => exact absurd (hr.1 rfl) hN

/-- what Write ends with -/
def BinWrP (C : Circ) (w : World) (e : Ending) (w' : World) : Prop :=
  ((NormC C ∧ e = .returned (.tuple #[.string ⟨(binB C).toArray⟩, .bool true])) ∨ (¬ NormC C ∧ e = .returned (.tuple #[.string ⟨#[]⟩, .bool false]))) ∧ Kp (fun _ => False) w w'

set_option maxRecDepth 100000 in
set_option maxHeartbeats 8000000 in
theorem bin_Write (V : CV) (C : Circ) (w : World) (h : CAt w V C) (hf : CFew C 1000000) (hM : -9223372036854775808 ≤ C.max ∧ C.max ≤ 9223372036854775807) (ht : Tab w) :
    Calls Tryd.prog 7 #[.agg (cvals V C)] w fun e w' => BinWrP C w e w' := by
  have HA := Lib.hid h
  have HF := Lib.hid hf
  have HT := Lib.hid ht
  obtain ⟨wz, hwz⟩ : ∃ wz : World, wz = w.alloc (.cells (cvals V C) 27) := ⟨_, rfl⟩
  have HK0 := Lib.hid (show Kp (fun _ => False) w wz by rw [hwz]; exact (Kp.refl _ w).alloc _)
  have HC0 := Lib.hid (show Blk wz w.heap.size (cvals V C) 27 by rw [hwz]; exact Blk.new w (cvals V C) _)
  have HZ := Lib.hid hwz
  clear h ht hwz
  by_cases hN : NormC C
  case neg =>
    have HNm := Lib.hid (bin_Normal_no V C wz (HA.out.kp HK0.out) HF.out hM hN)
    have HNn := Lib.hid hN
    unfold cvals at HNm HC0 HZ ⊢
    obtain ⟨d0, d1, d2, d3, d4, d5, d6, d7, d8⟩ := Blk.cells9 HC0.out
    clear hM hN hf
    go_enter Tryd.func7, Tryd.ntmps7
    go_upto_region 1 with fail
    rw [← HZ.out]
    clear HZ
    go_wp2_with (go_at_call 9; with_reducible refine Calls.mono HNm.out ?_; rintro e w1 ⟨rfl, hK1⟩; have HK1 := Lib.hid (HK0.out.trans hK1 (fun _ _ h => h)); clear hK1)
    go_ret2
    exact ⟨.inr ⟨HNn.out, rfl⟩, HK1.out⟩
  have HNm := Lib.hid (bin_Normal_yes V C wz (HA.out.kp HK0.out) HF.out hM hN)
  have HNn := Lib.hid hN
  unfold cvals at HNm HC0 HZ ⊢
  obtain ⟨d0, d1, d2, d3, d4, d5, d6, d7, d8⟩ := Blk.cells9 HC0.out
  clear hM hN hf
  go_enter Tryd.func7, Tryd.ntmps7
  go_upto_region 1 with fail
  rw [← HZ.out]
  clear HZ
  go_upto_region 3 with (go_at_call 9; with_reducible refine Calls.mono HNm.out ?_; rintro e w1 ⟨rfl, hK1⟩; have HS1 := Lib.hid (WS.start (V := V) (C := C) (HC0.out.kp hK1 (fun h => h)) (HK0.out.trans hK1 (fun _ _ h => h))); clear hK1)
  obtain ⟨B, hB⟩ : ∃ B : Nat, B = w1.heap.size := ⟨_, rfl⟩
  obtain ⟨wb, hwb⟩ : ∃ wb : World, wb = w1.alloc (.cells #[.pointer none, .slice none 0 0] 49) := ⟨_, rfl⟩
  rw [← hwb, ← hB] at HS1
  have HZb := Lib.hid (And.intro hwb hB)
  clear hwb hB d0 d1 d2 d3 d4 d5 d6 d7 d8 HNm HC0
  have HWc := Lib.hid (show ∀ (u : World) (l : List UInt8), WS w u B V C l → u.cell? ⟨w.heap.size, 2, none⟩ = some (.slice V.al C.lats.length V.cl) ∧ u.cell? ⟨w.heap.size, 3, none⟩ = some (.slice V.ao C.outs.length V.co) ∧ u.cell? ⟨w.heap.size, 4, none⟩ = some (.slice V.ab C.bads.length V.cb) ∧ u.cell? ⟨w.heap.size, 5, none⟩ = some (.slice V.ac C.cons.length V.cc) ∧ u.cell? ⟨w.heap.size, 6, none⟩ = some (.slice V.ag C.gates.length V.cg) from fun u l h =>
    ⟨h.c.cell (i := 2) rfl, h.c.cell (i := 3) rfl, h.c.cell (i := 4) rfl, h.c.cell (i := 5) rfl, h.c.cell (i := 6) rfl⟩)
  obtain ⟨-, ho, hb, hc, -⟩ := HWc.out _ _ HS1.out
  go_upto_region 4 with fail
  rw [← HZb.out.1, ← HZb.out.2]
  clear ho hb hc
  obtain ⟨hl, -⟩ := HWc.out _ _ HS1.out
  have HZ2 := HZb
  clear HZb
  go_wp2_with fail
  go_loopw [19] (fun v19 wr => ∃ k : Nat, v19 = .int .i64 k ∧ k ≤ C.lats.length ∧ WS w wr B V C ((C.lats.take k).flatMap latB)) (fun v19 _ => C.lats.length - (intOf v19).toNat)
  case atStart => exact ⟨0, rfl, by omega, HS1.out⟩
  case round =>
    obtain ⟨k, rfl, hk, hW⟩ := hrel
    obtain ⟨wp, rfl⟩ : ∃ wp : World, wp = wr := ⟨_, rfl⟩
    have HW := Lib.hid hW
    have hnl : C.lats.length ≤ 1000000 := HF.out.l
    clear hW hl
    by_cases hlt : k < C.lats.length
    · obtain ⟨b, off, ea, hE⟩ := HA.out.latCell hlt
      obtain ⟨e0, e1, e2⟩ := hE _ HW.out.kp
      have hr := norm_lat HNn.out HF.out hlt
      have hln := lats_len HNn.out HF.out k
      have HTk := Lib.hid (flat_take latB (g3_some hlt))
      obtain ⟨x0, hx0⟩ : ∃ x, (g3 C.lats k).1 = x := ⟨_, rfl⟩
      obtain ⟨x1, hx1⟩ : ∃ x, (g3 C.lats k).2.1 = x := ⟨_, rfl⟩
      obtain ⟨x2, hx2⟩ : ∃ x, (g3 C.lats k).2.2 = x := ⟨_, rfl⟩
      have hg3 : g3 C.lats k = (x0, x1, x2) := by rw [← hx0, ← hx1, ← hx2]
      rw [hx0] at e0
      rw [hx1] at e1 hr
      rw [hx2] at e2 hr
      rw [hg3] at HTk
      obtain ⟨l, hl⟩ : ∃ l, (C.lats.take k).flatMap latB = l := ⟨_, rfl⟩
      rw [hl] at HTk HW hln
      rw [ea]
      have hi1 := itoaLen (n := x1) (by omega) (by omega)
      have hi2 := itoaLen (n := x2) (by omega) (by omega)
      have HI := Lib.hid (And.intro hln (And.intro hi1 hi2))
      have i0 : (0 : Int) ≤ (k : Int) := by omega
      have i2 : (k : Int) < (C.lats.length : Int) := by omega
      obtain ⟨wv, hwv⟩ : ∃ wv : World, wv = wp.alloc (.cells #[.int .i64 x0, .int .i64 x1, .int .i64 x2] 51) := ⟨_, rfl⟩
      have HWv := Lib.hid (HW.out.kp' (by rw [hwv]; exact (Kp.refl _ wp).alloc _ : Kp (fun _ => False) wp wv))
      have HX := Lib.hid (show Blk wv wp.heap.size #[.int .i64 x0, .int .i64 x1, .int .i64 x2] 51 by rw [hwv]; exact Blk.new _ _ _)
      have nb1 := HX.out.cell (i := 1) (v := .int .i64 x1) rfl
      have HBp := Lib.hid (show B ≠ wp.heap.size from by have := HW.out.bw; omega)
      have HZv := Lib.hid hwv
      have HR := Lib.hid hr
      clear hx0 hx1 hx2 hE ea hwv hg3 hl hln hr
      have HDx1 := Lib.hid (fun u hu => octet_Dec x1 u (by have := HR.out; omega) (by have := HR.out; omega) hu)
      have HDx2 := Lib.hid (fun u hu => octet_Dec x2 u (by have := HR.out; omega) (by have := HR.out; omega) hu)
      by_cases hx : x2 = 0
      · have q : ((x2 : Int) != 0) = false := by simp [hx]
        have HL := Lib.hid (show latB (x0, x1, x2) = Lib.itoa x1 ++ [10] by unfold latB lineB; rw [if_pos hx])
        clear hx
        obtain ⟨T1, hT1⟩ : ∃ T, Lib.itoa x1 = T := ⟨_, rfl⟩
        rw [hT1] at HDx1 HI HL
        clear hT1 hi1 hi2
        go_upto_region 7 with fail
        rw [← HZv.out]
        clear HZv e0 e1 e2
        go_upto_region 8 with (first
          | (go_at_call 17; refine (HDx1.out _ (HT.out.kp HWv.out.kp)).mono ?_; rintro e w2 ⟨rfl, hK2⟩; have HW2 := Lib.hid (HWv.out.kp' hK2); have HX2 := Lib.hid (HX.out.kp hK2 (fun h => h)); clear hK2)
          | (go_at_call 16; refine (ws_str HW2.out T1 _ rfl (by have := HI.out; omega)).mono ?_; rintro e w3 ⟨⟨v, rfl⟩, hW3, hK3⟩; have HX3 := Lib.hid (HW2.out.other HX2.out HBp.out (by decide) hK3); have HW3 := Lib.hid hW3; clear hW3 hK3))
        have nb2 := HX3.out.cell (i := 2) (v := .int .i64 x2) rfl
        go_wp2_with (go_at_call 18; refine (ws_byte HW3.out (by have := HI.out; rw [List.length_append]; omega)).mono ?_; rintro e w4 ⟨⟨v, rfl⟩, hW4, hK4⟩; have HW4 := Lib.hid hW4; clear hW4 hK4)
        go_roundw
        case rel => exact ⟨k + 1, by go_num, by omega, by rw [HTk.out, HL.out, ← List.append_assoc]; exact HW4.out⟩
        case measure => simp [intOf]; omega
      · have q : ((x2 : Int) != 0) = true := by simpa using hx
        have HL := Lib.hid (show latB (x0, x1, x2) = Lib.itoa x1 ++ 32 :: (Lib.itoa x2 ++ [10]) by unfold latB lineB; rw [if_neg hx])
        clear hx
        obtain ⟨T1, hT1⟩ : ∃ T, Lib.itoa x1 = T := ⟨_, rfl⟩
        rw [hT1] at HDx1 HI HL
        obtain ⟨T2, hT2⟩ : ∃ T, Lib.itoa x2 = T := ⟨_, rfl⟩
        rw [hT2] at HDx2 HI HL
        have hcat : ¬ 9223372036854775807 < 1 + T2.length := by have := HI.out; omega
        clear hT1 hi1 hi2 hT2
        go_upto_region 7 with fail
        rw [← HZv.out]
        clear HZv e0 e1 e2
        go_upto_region 8 with (first
          | (go_at_call 17; refine (HDx1.out _ (HT.out.kp HWv.out.kp)).mono ?_; rintro e w2 ⟨rfl, hK2⟩; have HW2 := Lib.hid (HWv.out.kp' hK2); have HX2 := Lib.hid (HX.out.kp hK2 (fun h => h)); clear hK2)
          | (go_at_call 16; refine (ws_str HW2.out T1 _ rfl (by have := HI.out; omega)).mono ?_; rintro e w3 ⟨⟨v, rfl⟩, hW3, hK3⟩; have HX3 := Lib.hid (HW2.out.other HX2.out HBp.out (by decide) hK3); have HW3 := Lib.hid hW3; clear hW3 hK3))
        have nb2 := HX3.out.cell (i := 2) (v := .int .i64 x2) rfl
        go_wp2_with (first
          | (go_at_call 17; refine (HDx2.out _ (HT.out.kp HW3.out.kp)).mono ?_; rintro e w5 ⟨rfl, hK5⟩; have HW5 := Lib.hid (HW3.out.kp' hK5); clear hK5)
          | (go_at_call 16; refine (ws_str HW5.out (32 :: T2) _ (cat_bytes [32] T2) (by have := HI.out; rw [List.length_append, List.length_cons]; omega)).mono ?_; rintro e w6 ⟨⟨v, rfl⟩, hW6, hK6⟩; have HW6 := Lib.hid hW6; clear hW6 hK6)
          | (go_at_call 18; refine (ws_byte HW6.out (by have := HI.out; rw [List.length_append, List.length_append, List.length_cons]; omega)).mono ?_; rintro e w4 ⟨⟨v, rfl⟩, hW4, hK4⟩; have HW4 := Lib.hid hW4; clear hW4 hK4))
        go_roundw
        case rel => exact ⟨k + 1, by go_num, by omega, by rw [HTk.out, HL.out]; simpa using HW4.out⟩
        case measure => simp [intOf]; omega
    · obtain rfl : k = C.lats.length := by omega
      have HWl := Lib.hid (show WS w wp B V C (wtx C 0) by rw [wtx_zero]; have := HW.out; rwa [List.take_length] at this)
      obtain ⟨-, c3, c4, c5, -⟩ := HWc.out _ _ HWl.out
      obtain ⟨wq, hwq⟩ : ∃ wq : World, wq = wp.alloc (.cells #[.slice V.ao C.outs.length V.co, .slice V.ab C.bads.length V.cb, .slice V.ac C.cons.length V.cc] 22) := ⟨_, rfl⟩
      have HWq := Lib.hid (HWl.out.kp' (by rw [hwq]; exact (Kp.refl _ wp).alloc _ : Kp (fun _ => False) wp wq))
      have HLq := Lib.hid (show Blk wq wp.heap.size #[.slice V.ao C.outs.length V.co, .slice V.ab C.bads.length V.cb, .slice V.ac C.cons.length V.cc] 22 by rw [hwq]; exact Blk.new _ _ _)
      have HBq := Lib.hid (show B ≠ wp.heap.size from by have := HWl.out.bw; omega)
      have HZq := Lib.hid hwq
      clear hwq HW
      go_upto_region 13 with fail
      rw [← HZq.out]
      clear HZq c3 c4 c5
      go_loopw [45] (fun v45 wr => ∃ k : Nat, v45 = .int .i64 k ∧ k ≤ 3 ∧ WS w wr B V C (wtx C k) ∧ Blk wr wp.heap.size #[.slice V.ao C.outs.length V.co, .slice V.ab C.bads.length V.cb, .slice V.ac C.cons.length V.cc] 22) (fun v45 _ => 3 - (intOf v45).toNat)
      case atStart => exact ⟨0, rfl, by omega, HWq.out, HLq.out⟩
      case round =>
        obtain ⟨k, rfl, hk3, hW, hL⟩ := hrel
        clear HWq HLq HWl
        obtain ⟨wk, rfl⟩ : ∃ wk : World, wk = wr := ⟨_, rfl⟩
        have HW := Lib.hid hW
        have HL := Lib.hid hL
        clear hW hL
        by_cases hlt : k < 3
        · obtain ⟨a, n, c, hcl, hln, hrow⟩ := wcell HA.out hlt
          have hcell := HL.out.cell hcl
          have HRow := Lib.hid hrow
          have HRg := Lib.hid (fun x (hx : x ∈ wl C k) => norm_wl HNn.out HF.out hx)
          have hwt := wtx_len HNn.out HF.out k
          have HTj := Lib.hid (fun j => wl_len HNn.out HF.out k j)
          have HSu := Lib.hid (wtx_succ C k)
          have hn1 : n ≤ 1000000 := by
            rw [← hln]
            match k with
            | 0 => exact HF.out.o
            | 1 => exact HF.out.b
            | k + 2 => exact HF.out.c
          obtain ⟨M, hM⟩ : ∃ M, wl C k = M := ⟨_, rfl⟩
          obtain ⟨t, ht⟩ : ∃ t, wtx C k = t := ⟨_, rfl⟩
          rw [hM] at HRow HRg HTj HSu hln
          rw [ht] at hwt HSu HW
          have hwt2 : t.length ≤ 110000000 := by omega
          have HLn := Lib.hid hln
          have HWt := Lib.hid hwt2
          have i0 : (0 : Int) ≤ (k : Int) := by omega
          have i2 : (k : Int) < 3 := by omega
          have HW0 := Lib.hid (show WS w wk B V C (t ++ (M.take 0).flatMap oneB) by simpa using HW.out)
          clear hM ht hwt hwt2 hln hrow hcl
          go_wp2_with fail
          go_loopw [51] (fun v51 wr => ∃ j : Nat, v51 = .int .i64 j ∧ j ≤ n ∧ WS w wr B V C (t ++ (M.take j).flatMap oneB) ∧ Blk wr wp.heap.size #[.slice V.ao C.outs.length V.co, .slice V.ab C.bads.length V.cb, .slice V.ac C.cons.length V.cc] 22 ∧ Kp (fun _ => False) w wr) (fun v51 _ => n - (intOf v51).toNat)
          case atStart => exact ⟨0, rfl, by omega, HW0.out, HL.out, HW0.out.kp⟩
          case round =>
            obtain ⟨j, rfl, hj, hW, hL, -⟩ := hrel
            clear HW HL HW0 hcell
            obtain ⟨wj, rfl⟩ : ∃ wk : World, wk = wr := ⟨_, rfl⟩
            have HW := Lib.hid hW
            have HL := Lib.hid hL
            clear hW hL
            by_cases hlt2 : j < n
            · have hjl : j < M.length := by rw [HLn.out]; exact hlt2
              have hxm := HRg.out (gi M j) (List.mem_of_getElem? (gi_some hjl))
              obtain ⟨b, off, ea, e0⟩ := (show IntsAt wj a M from RowAt.kp HRow.out HW.out.kp (fun _ _ h => h)).get hjl
              have hTk := flat_take oneB (gi_some hjl)
              have hlj := HTj.out j
              obtain ⟨x, hx⟩ : ∃ x, gi M j = x := ⟨_, rfl⟩
              rw [hx] at e0 hxm hTk
              obtain ⟨m, hm⟩ : ∃ m, (M.take j).flatMap oneB = m := ⟨_, rfl⟩
              rw [hm] at HW hTk hlj
              have hi1 := itoaLen (n := x) (by omega) (by omega)
              have HI := Lib.hid (And.intro hlj hi1)
              have HXm := Lib.hid hxm
              have HDx := Lib.hid (fun u hu => octet_Dec x u (by have := HXm.out; omega) (by have := HXm.out; omega) hu)
              have HTk := Lib.hid (show (M.take (j + 1)).flatMap oneB = m ++ (Lib.itoa x ++ [10]) from hTk)
              obtain ⟨T1, hT1⟩ : ∃ T, Lib.itoa x = T := ⟨_, rfl⟩
              rw [hT1] at HDx HI HTk hi1
              have hcat : ¬ 9223372036854775807 < T1.length + 1 := by omega
              rw [ea]
              have i0 : (0 : Int) ≤ (j : Int) := by omega
              have i2 : (j : Int) < (n : Int) := by omega
              clear hx hm hT1 hTk hi1 hlj hxm ea
              go_wp2_with (first
                | (go_at_call 17; refine (HDx.out _ (HT.out.kp HW.out.kp)).mono ?_; rintro e w5 ⟨rfl, hK5⟩; have HW5 := Lib.hid (HW.out.kp' hK5); have HL5 := Lib.hid (HL.out.kp hK5 (fun h => h)); clear hK5)
                | (go_at_call 16; refine (ws_str HW5.out (T1 ++ [10]) _ (cat_bytes T1 [10]) (by have := HI.out; have := HWt.out; simp only [List.length_append, List.length_cons, List.length_nil]; omega)).mono ?_; rintro e w6 ⟨⟨v, rfl⟩, hW6, hK6⟩; have HL6 := Lib.hid (HW5.out.other HL5.out HBq.out (by decide) hK6); have HK6 := Lib.hid hK6; have HW6 := Lib.hid hW6; clear hW6 hK6))
              go_roundw
              case rel => exact ⟨j + 1, by go_num, by omega, by rw [HTk.out, ← List.append_assoc]; exact HW6.out, HL6.out, HW6.out.kp⟩
              case measure => simp [intOf]; omega
            · obtain rfl : j = n := by omega
              have HWn := Lib.hid (show WS w wj B V C (wtx C (k + 1)) by rw [HSu.out]; have := HW.out; rwa [List.take_of_length_le (by rw [HLn.out]; exact Nat.le_refl _)] at this)
              go_wp2_with fail
              go_roundw
              case rel => exact ⟨k + 1, by go_num, by omega, HWn.out, HL.out⟩
              case measure => simp [intOf]; omega
        · have HW := Lib.hid (show WS w wk B V C (wtx C 3) by have := HW.out; rwa [show k = 3 by omega] at this)
          have hd : decide ((k : Int) < 3) = false := by simp; omega
          clear hlt hk3
          obtain ⟨-, -, -, -, c6⟩ := HWc.out _ _ HW.out
          have HW0 := Lib.hid (show WS w wk B V C (wtx C 3 ++ (C.gates.take 0).flatMap gateB) by simpa using HW.out)
          have HWt := Lib.hid (show (wtx C 3).length ≤ 110000000 from wtx_len HNn.out HF.out 3)
          have HAll := Lib.hid (wtx_all C)
          have hng : C.gates.length ≤ 1000000 := HF.out.g
          obtain ⟨t, ht⟩ : ∃ t, wtx C 3 = t := ⟨_, rfl⟩
          rw [ht] at HW0 HWt HAll
          clear HW HL ht
          go_wp2_with fail
          go_loopw [64] (fun v64 wr => ∃ j : Nat, v64 = .int .i64 j ∧ j ≤ C.gates.length ∧ WS w wr B V C (t ++ (C.gates.take j).flatMap gateB)) (fun v64 _ => C.gates.length - (intOf v64).toNat)
          case atStart => exact ⟨0, rfl, by omega, HW0.out⟩
          case round =>
            obtain ⟨j, rfl, hj, hW⟩ := hrel
            obtain ⟨wp, rfl⟩ : ∃ wk : World, wk = wr := ⟨_, rfl⟩
            clear HW0 c6
            have HW := Lib.hid hW
            clear hW
            by_cases hlt2 : j < C.gates.length
            · obtain ⟨b, off, ea, hE⟩ := HA.out.gateCell hlt2
              obtain ⟨e0, e1, e2⟩ := hE _ HW.out.kp
              have hr := norm_gate HNn.out HF.out hlt2
              have hlj := gates_len HF.out j
              have hTk := flat_take gateB (g3_some hlt2)
              obtain ⟨x0, hx0⟩ : ∃ x, (g3 C.gates j).1 = x := ⟨_, rfl⟩
              obtain ⟨x1, hx1⟩ : ∃ x, (g3 C.gates j).2.1 = x := ⟨_, rfl⟩
              obtain ⟨x2, hx2⟩ : ∃ x, (g3 C.gates j).2.2 = x := ⟨_, rfl⟩
              have hg3 : g3 C.gates j = (x0, x1, x2) := by rw [← hx0, ← hx1, ← hx2]
              rw [hx0] at e0 hr
              rw [hx1] at e1 hr
              rw [hx2] at e2 hr
              rw [hg3] at hTk
              obtain ⟨m, hm⟩ : ∃ m, (C.gates.take j).flatMap gateB = m := ⟨_, rfl⟩
              rw [hm] at HW hTk hlj
              obtain ⟨u1, hu1⟩ : ∃ u, (x0 - x1).toNat = u := ⟨_, rfl⟩
              obtain ⟨u2, hu2⟩ : ∃ u, (x1 - x2).toNat = u := ⟨_, rfl⟩
              have HTk := Lib.hid (show (C.gates.take (j + 1)).flatMap gateB = m ++ (numL 5 u1 ++ numL 5 u2) by rw [hTk, ← hu1, ← hu2]; rfl)
              have HS := Lib.hid (show x0 - x1 = (u1 : Nat) ∧ x1 - x2 = (u2 : Nat) ∧ u1 ≤ 6000001 ∧ u2 ≤ 6000001 by omega)
              have HNu1 := Lib.hid (show u1 < 4294967296 by have := HS.out; omega)
              have HNu2 := Lib.hid (show u2 < 4294967296 by have := HS.out; omega)
              have hn1 := numL_length 5 u1
              have hn2 := numL_length 5 u2
              have HLn := Lib.hid (show ¬ 9223372036854775807 < (numL 5 u1).length + (numL 5 u2).length by omega)
              have HI := Lib.hid (show (t ++ m).length + (numL 5 u1 ++ numL 5 u2).length ≤ 1000000000 by have := HWt.out; simp only [List.length_append]; omega)
              rw [ea]
              have i0 : (0 : Int) ≤ (j : Int) := by omega
              have i2 : (j : Int) < (C.gates.length : Int) := by omega
              obtain ⟨wv, hwv⟩ : ∃ wv : World, wv = wp.alloc (.cells #[.int .i64 x0, .int .i64 x1, .int .i64 x2] 43) := ⟨_, rfl⟩
              have HWv := Lib.hid (HW.out.kp' (by rw [hwv]; exact (Kp.refl _ wp).alloc _ : Kp (fun _ => False) wp wv))
              have HX := Lib.hid (show Blk wv wp.heap.size #[.int .i64 x0, .int .i64 x1, .int .i64 x2] 43 by rw [hwv]; exact Blk.new _ _ _)
              have HZv := Lib.hid hwv
              clear hx0 hx1 hx2 hE ea hwv hg3 hm hu1 hu2 hTk hlj hn1 hn2 hr
              go_upto_region 24 with fail
              rw [← HZv.out]
              clear HZv e0 e1 e2
              refine wp_region_loose (p := upTo 15) (V := atV [EqV (.pointer (some ⟨wp.heap.size, 0, none⟩)), EqV (.int .i64 x0), EqV (.pointer (some ⟨wp.heap.size, 1, none⟩)), EqV (.int .i64 x1), EqV (.int .i64 (u1 : Nat)), EqV (.int .u32 (u1 : Nat)), EqV (.string ⟨(numL 5 u1).toArray⟩), EqV (.pointer (some ⟨wp.heap.size, 1, none⟩)), EqV (.int .i64 x1), EqV (.pointer (some ⟨wp.heap.size, 2, none⟩)), EqV (.int .i64 x2), EqV (.int .i64 (u2 : Nat)), EqV (.int .u32 (u2 : Nat)), EqV (.string ⟨(numL 5 u2).toArray⟩), EqV (.string ((⟨(numL 5 u1).toArray⟩ : ByteArray) ++ (⟨(numL 5 u2).toArray⟩ : ByteArray)))]) (LP := #[true, true, true, true, true, true, true, true, true, true, true, true, true, true, true, false]) (K := 1) (by kernel_rfl) (by kernel_rfl) (atV_st ?hstL24) ?hstepL24 (by kernel_rfl) ?hLPL24 (by kernel_rfl) ?hendL24
              case hstL24 =>
                intro W h
                simp only [List.mem_cons, List.not_mem_nil, or_false] at h
                rcases h with rfl | rfl | rfl | rfl | rfl | rfl | rfl | rfl | rfl | rfl | rfl | rfl | rfl | rfl | rfl <;> first | exact EqV.st _ | exact EqV.st _
              case hLPL24 => exact upTo_spec (by kernel_rfl)
              case hstepL24 =>
                intro i o ho hp a u hk hoff hdep
                have e12 : a.tmps[12]?.getD undef = (.pointer (some ⟨wp.heap.size, 0, none⟩)) := slot_at (hoff 12 (noDst_spec (by kernel_rfl)))
                clear hoff
                match i, ho with
                | 0, ho =>
                  obtain rfl := Option.some.inj ho
                  refine lw_value (v := .pointer (some ⟨wp.heap.size, 0, none⟩)) (u' := u) ?_ (Kp.refl _ _) rfl
                  go_simp
                | 1, ho =>
                  obtain rfl := Option.some.inj ho
                  have e68 : a.tmps[68]?.getD undef = .pointer (some ⟨wp.heap.size, 0, none⟩) := slot_at (hdep ⟨0, .data⟩ (by simp) rfl _ 68 rfl rfl)
                  have c0 := (HX.out.kp hk (fun h => h)).cell (i := 0) (v := .int .i64 x0) rfl
                  refine lw_value (v := .int .i64 x0) (u' := u) ?_ (Kp.refl _ _) rfl
                  go_simp
                | 2, ho =>
                  obtain rfl := Option.some.inj ho
                  refine lw_value (v := .pointer (some ⟨wp.heap.size, 1, none⟩)) (u' := u) ?_ (Kp.refl _ _) rfl
                  go_simp
                | 3, ho =>
                  obtain rfl := Option.some.inj ho
                  have e70 : a.tmps[70]?.getD undef = .pointer (some ⟨wp.heap.size, 1, none⟩) := slot_at (hdep ⟨2, .data⟩ (by simp) rfl _ 70 rfl rfl)
                  have c1 := (HX.out.kp hk (fun h => h)).cell (i := 1) (v := .int .i64 x1) rfl
                  refine lw_value (v := .int .i64 x1) (u' := u) ?_ (Kp.refl _ _) rfl
                  go_simp
                | 4, ho =>
                  obtain rfl := Option.some.inj ho
                  have e69 : a.tmps[69]?.getD undef = .int .i64 x0 := slot_at (hdep ⟨1, .data⟩ (by simp) rfl _ 69 rfl rfl)
                  have e71 : a.tmps[71]?.getD undef = .int .i64 x1 := slot_at (hdep ⟨3, .data⟩ (by simp) rfl _ 71 rfl rfl)
                  obtain ⟨s1, s2, s3, s4⟩ := HS.out
                  refine lw_value (v := .int .i64 (u1 : Nat)) (u' := u) ?_ (Kp.refl _ _) rfl
                  go_simp
                  exact IntWalk.i64_in _ (by omega)
                | 5, ho =>
                  obtain rfl := Option.some.inj ho
                  have e72 : a.tmps[72]?.getD undef = .int .i64 (u1 : Nat) := slot_at (hdep ⟨4, .data⟩ (by simp) rfl _ 72 rfl rfl)
                  obtain ⟨s1, s2, s3, s4⟩ := HS.out
                  refine lw_value (v := .int .u32 (u1 : Nat)) (u' := u) ?_ (Kp.refl _ _) rfl
                  go_simp
                  exact IntWalk.u32_in _ (by omega)
                | 6, ho =>
                  obtain rfl := Option.some.inj ho
                  have e73 : a.tmps[73]?.getD undef = .int .u32 (u1 : Nat) := slot_at (hdep ⟨5, .data⟩ (by simp) rfl _ 73 rfl rfl)
                  refine lw_call (f := 19) (args := #[.int .u32 (u1 : Nat)]) ?_ ?_
                  · go_simp
                  · exact (octet_Num u1 u HNu1.out).mono (by
                      rintro e u' ⟨rfl, hK⟩
                      exact ⟨_, rfl, hK, rfl⟩)
                | 7, ho =>
                  obtain rfl := Option.some.inj ho
                  refine lw_value (v := .pointer (some ⟨wp.heap.size, 1, none⟩)) (u' := u) ?_ (Kp.refl _ _) rfl
                  go_simp
                | 8, ho =>
                  obtain rfl := Option.some.inj ho
                  have e75 : a.tmps[75]?.getD undef = .pointer (some ⟨wp.heap.size, 1, none⟩) := slot_at (hdep ⟨7, .data⟩ (by simp) rfl _ 75 rfl rfl)
                  have c1 := (HX.out.kp hk (fun h => h)).cell (i := 1) (v := .int .i64 x1) rfl
                  refine lw_value (v := .int .i64 x1) (u' := u) ?_ (Kp.refl _ _) rfl
                  go_simp
                | 9, ho =>
                  obtain rfl := Option.some.inj ho
                  refine lw_value (v := .pointer (some ⟨wp.heap.size, 2, none⟩)) (u' := u) ?_ (Kp.refl _ _) rfl
                  go_simp
                | 10, ho =>
                  obtain rfl := Option.some.inj ho
                  have e77 : a.tmps[77]?.getD undef = .pointer (some ⟨wp.heap.size, 2, none⟩) := slot_at (hdep ⟨9, .data⟩ (by simp) rfl _ 77 rfl rfl)
                  have c2 := (HX.out.kp hk (fun h => h)).cell (i := 2) (v := .int .i64 x2) rfl
                  refine lw_value (v := .int .i64 x2) (u' := u) ?_ (Kp.refl _ _) rfl
                  go_simp
                | 11, ho =>
                  obtain rfl := Option.some.inj ho
                  have e76 : a.tmps[76]?.getD undef = .int .i64 x1 := slot_at (hdep ⟨8, .data⟩ (by simp) rfl _ 76 rfl rfl)
                  have e78 : a.tmps[78]?.getD undef = .int .i64 x2 := slot_at (hdep ⟨10, .data⟩ (by simp) rfl _ 78 rfl rfl)
                  obtain ⟨s1, s2, s3, s4⟩ := HS.out
                  refine lw_value (v := .int .i64 (u2 : Nat)) (u' := u) ?_ (Kp.refl _ _) rfl
                  go_simp
                  exact IntWalk.i64_in _ (by omega)
                | 12, ho =>
                  obtain rfl := Option.some.inj ho
                  have e79 : a.tmps[79]?.getD undef = .int .i64 (u2 : Nat) := slot_at (hdep ⟨11, .data⟩ (by simp) rfl _ 79 rfl rfl)
                  obtain ⟨s1, s2, s3, s4⟩ := HS.out
                  refine lw_value (v := .int .u32 (u2 : Nat)) (u' := u) ?_ (Kp.refl _ _) rfl
                  go_simp
                  exact IntWalk.u32_in _ (by omega)
                | 13, ho =>
                  obtain rfl := Option.some.inj ho
                  have e80 : a.tmps[80]?.getD undef = .int .u32 (u2 : Nat) := slot_at (hdep ⟨12, .data⟩ (by simp) rfl _ 80 rfl rfl)
                  refine lw_call (f := 19) (args := #[.int .u32 (u2 : Nat)]) ?_ ?_
                  · go_simp
                  · exact (octet_Num u2 u HNu2.out).mono (by
                      rintro e u' ⟨rfl, hK⟩
                      exact ⟨_, rfl, hK, rfl⟩)
                | 14, ho =>
                  obtain rfl := Option.some.inj ho
                  have e74 : a.tmps[74]?.getD undef = .string ⟨(numL 5 u1).toArray⟩ := slot_at (hdep ⟨6, .data⟩ (by simp) rfl _ 74 rfl rfl)
                  have e81 : a.tmps[81]?.getD undef = .string ⟨(numL 5 u2).toArray⟩ := slot_at (hdep ⟨13, .data⟩ (by simp) rfl _ 81 rfl rfl)
                  have hl1 := HLn.out
                  refine lw_value (v := .string ((⟨(numL 5 u1).toArray⟩ : ByteArray) ++ (⟨(numL 5 u2).toArray⟩ : ByteArray))) (u' := u) ?_ (Kp.refl _ _) rfl
                  go_simp
                | n + 15, _ => exact absurd hp (by simp [upTo])
              case hendL24 =>
                intro a u hI
                have hsz : a.tmps.size = 86 := hI.size
                have hdf : a.defers = [] := hI.defers
                have f0 : a.tmps.getD 0 undef = _ := hI.off 0 (noDst_spec (p := upTo 15) (by kernel_rfl))
                have f1 : a.tmps.getD 1 undef = _ := hI.off 1 (noDst_spec (p := upTo 15) (by kernel_rfl))
                have f2 : a.tmps.getD 2 undef = _ := hI.off 2 (noDst_spec (p := upTo 15) (by kernel_rfl))
                have f3 : a.tmps.getD 3 undef = _ := hI.off 3 (noDst_spec (p := upTo 15) (by kernel_rfl))
                have f4 : a.tmps.getD 4 undef = _ := hI.off 4 (noDst_spec (p := upTo 15) (by kernel_rfl))
                have f5 : a.tmps.getD 5 undef = _ := hI.off 5 (noDst_spec (p := upTo 15) (by kernel_rfl))
                have f6 : a.tmps.getD 6 undef = _ := hI.off 6 (noDst_spec (p := upTo 15) (by kernel_rfl))
                have f7 : a.tmps.getD 7 undef = _ := hI.off 7 (noDst_spec (p := upTo 15) (by kernel_rfl))
                have f8 : a.tmps.getD 8 undef = _ := hI.off 8 (noDst_spec (p := upTo 15) (by kernel_rfl))
                have f9 : a.tmps.getD 9 undef = _ := hI.off 9 (noDst_spec (p := upTo 15) (by kernel_rfl))
                have f10 : a.tmps.getD 10 undef = _ := hI.off 10 (noDst_spec (p := upTo 15) (by kernel_rfl))
                have f11 : a.tmps.getD 11 undef = _ := hI.off 11 (noDst_spec (p := upTo 15) (by kernel_rfl))
                have f12 : a.tmps.getD 12 undef = _ := hI.off 12 (noDst_spec (p := upTo 15) (by kernel_rfl))
                have f13 : a.tmps.getD 13 undef = _ := hI.off 13 (noDst_spec (p := upTo 15) (by kernel_rfl))
                have f14 : a.tmps.getD 14 undef = _ := hI.off 14 (noDst_spec (p := upTo 15) (by kernel_rfl))
                have f15 : a.tmps.getD 15 undef = _ := hI.off 15 (noDst_spec (p := upTo 15) (by kernel_rfl))
                have f16 : a.tmps.getD 16 undef = _ := hI.off 16 (noDst_spec (p := upTo 15) (by kernel_rfl))
                have f17 : a.tmps.getD 17 undef = _ := hI.off 17 (noDst_spec (p := upTo 15) (by kernel_rfl))
                have f18 : a.tmps.getD 18 undef = _ := hI.off 18 (noDst_spec (p := upTo 15) (by kernel_rfl))
                have f19 : a.tmps.getD 19 undef = _ := hI.off 19 (noDst_spec (p := upTo 15) (by kernel_rfl))
                have f20 : a.tmps.getD 20 undef = _ := hI.off 20 (noDst_spec (p := upTo 15) (by kernel_rfl))
                have f21 : a.tmps.getD 21 undef = _ := hI.off 21 (noDst_spec (p := upTo 15) (by kernel_rfl))
                have f22 : a.tmps.getD 22 undef = _ := hI.off 22 (noDst_spec (p := upTo 15) (by kernel_rfl))
                have f23 : a.tmps.getD 23 undef = _ := hI.off 23 (noDst_spec (p := upTo 15) (by kernel_rfl))
                have f24 : a.tmps.getD 24 undef = _ := hI.off 24 (noDst_spec (p := upTo 15) (by kernel_rfl))
                have f25 : a.tmps.getD 25 undef = _ := hI.off 25 (noDst_spec (p := upTo 15) (by kernel_rfl))
                have f26 : a.tmps.getD 26 undef = _ := hI.off 26 (noDst_spec (p := upTo 15) (by kernel_rfl))
                have f27 : a.tmps.getD 27 undef = _ := hI.off 27 (noDst_spec (p := upTo 15) (by kernel_rfl))
                have f28 : a.tmps.getD 28 undef = _ := hI.off 28 (noDst_spec (p := upTo 15) (by kernel_rfl))
                have f29 : a.tmps.getD 29 undef = _ := hI.off 29 (noDst_spec (p := upTo 15) (by kernel_rfl))
                have f30 : a.tmps.getD 30 undef = _ := hI.off 30 (noDst_spec (p := upTo 15) (by kernel_rfl))
                have f31 : a.tmps.getD 31 undef = _ := hI.off 31 (noDst_spec (p := upTo 15) (by kernel_rfl))
                have f32 : a.tmps.getD 32 undef = _ := hI.off 32 (noDst_spec (p := upTo 15) (by kernel_rfl))
                have f33 : a.tmps.getD 33 undef = _ := hI.off 33 (noDst_spec (p := upTo 15) (by kernel_rfl))
                have f34 : a.tmps.getD 34 undef = _ := hI.off 34 (noDst_spec (p := upTo 15) (by kernel_rfl))
                have f35 : a.tmps.getD 35 undef = _ := hI.off 35 (noDst_spec (p := upTo 15) (by kernel_rfl))
                have f36 : a.tmps.getD 36 undef = _ := hI.off 36 (noDst_spec (p := upTo 15) (by kernel_rfl))
                have f37 : a.tmps.getD 37 undef = _ := hI.off 37 (noDst_spec (p := upTo 15) (by kernel_rfl))
                have f38 : a.tmps.getD 38 undef = _ := hI.off 38 (noDst_spec (p := upTo 15) (by kernel_rfl))
                have f39 : a.tmps.getD 39 undef = _ := hI.off 39 (noDst_spec (p := upTo 15) (by kernel_rfl))
                have f40 : a.tmps.getD 40 undef = _ := hI.off 40 (noDst_spec (p := upTo 15) (by kernel_rfl))
                have f41 : a.tmps.getD 41 undef = _ := hI.off 41 (noDst_spec (p := upTo 15) (by kernel_rfl))
                have f42 : a.tmps.getD 42 undef = _ := hI.off 42 (noDst_spec (p := upTo 15) (by kernel_rfl))
                have f43 : a.tmps.getD 43 undef = _ := hI.off 43 (noDst_spec (p := upTo 15) (by kernel_rfl))
                have f44 : a.tmps.getD 44 undef = _ := hI.off 44 (noDst_spec (p := upTo 15) (by kernel_rfl))
                have f45 : a.tmps.getD 45 undef = _ := hI.off 45 (noDst_spec (p := upTo 15) (by kernel_rfl))
                have f46 : a.tmps.getD 46 undef = _ := hI.off 46 (noDst_spec (p := upTo 15) (by kernel_rfl))
                have f47 : a.tmps.getD 47 undef = _ := hI.off 47 (noDst_spec (p := upTo 15) (by kernel_rfl))
                have f48 : a.tmps.getD 48 undef = _ := hI.off 48 (noDst_spec (p := upTo 15) (by kernel_rfl))
                have f49 : a.tmps.getD 49 undef = _ := hI.off 49 (noDst_spec (p := upTo 15) (by kernel_rfl))
                have f50 : a.tmps.getD 50 undef = _ := hI.off 50 (noDst_spec (p := upTo 15) (by kernel_rfl))
                have f51 : a.tmps.getD 51 undef = _ := hI.off 51 (noDst_spec (p := upTo 15) (by kernel_rfl))
                have f52 : a.tmps.getD 52 undef = _ := hI.off 52 (noDst_spec (p := upTo 15) (by kernel_rfl))
                have f53 : a.tmps.getD 53 undef = _ := hI.off 53 (noDst_spec (p := upTo 15) (by kernel_rfl))
                have f54 : a.tmps.getD 54 undef = _ := hI.off 54 (noDst_spec (p := upTo 15) (by kernel_rfl))
                have f55 : a.tmps.getD 55 undef = _ := hI.off 55 (noDst_spec (p := upTo 15) (by kernel_rfl))
                have f56 : a.tmps.getD 56 undef = _ := hI.off 56 (noDst_spec (p := upTo 15) (by kernel_rfl))
                have f57 : a.tmps.getD 57 undef = _ := hI.off 57 (noDst_spec (p := upTo 15) (by kernel_rfl))
                have f58 : a.tmps.getD 58 undef = _ := hI.off 58 (noDst_spec (p := upTo 15) (by kernel_rfl))
                have f59 : a.tmps.getD 59 undef = _ := hI.off 59 (noDst_spec (p := upTo 15) (by kernel_rfl))
                have f60 : a.tmps.getD 60 undef = _ := hI.off 60 (noDst_spec (p := upTo 15) (by kernel_rfl))
                have f61 : a.tmps.getD 61 undef = _ := hI.off 61 (noDst_spec (p := upTo 15) (by kernel_rfl))
                have f62 : a.tmps.getD 62 undef = _ := hI.off 62 (noDst_spec (p := upTo 15) (by kernel_rfl))
                have f63 : a.tmps.getD 63 undef = _ := hI.off 63 (noDst_spec (p := upTo 15) (by kernel_rfl))
                have f64 : a.tmps.getD 64 undef = _ := hI.off 64 (noDst_spec (p := upTo 15) (by kernel_rfl))
                have f65 : a.tmps.getD 65 undef = _ := hI.off 65 (noDst_spec (p := upTo 15) (by kernel_rfl))
                have f66 : a.tmps.getD 66 undef = _ := hI.off 66 (noDst_spec (p := upTo 15) (by kernel_rfl))
                have f67 : a.tmps.getD 67 undef = _ := hI.off 67 (noDst_spec (p := upTo 15) (by kernel_rfl))
                have f83 : a.tmps.getD 83 undef = _ := hI.off 83 (noDst_spec (p := upTo 15) (by kernel_rfl))
                have f84 : a.tmps.getD 84 undef = _ := hI.off 84 (noDst_spec (p := upTo 15) (by kernel_rfl))
                have f85 : a.tmps.getD 85 undef = _ := hI.off 85 (noDst_spec (p := upTo 15) (by kernel_rfl))
                have f68 : a.tmps.getD 68 undef = .pointer (some ⟨wp.heap.size, 0, none⟩) := hI.val 0 _ 68 rfl rfl rfl
                have f69 : a.tmps.getD 69 undef = .int .i64 x0 := hI.val 1 _ 69 rfl rfl rfl
                have f70 : a.tmps.getD 70 undef = .pointer (some ⟨wp.heap.size, 1, none⟩) := hI.val 2 _ 70 rfl rfl rfl
                have f71 : a.tmps.getD 71 undef = .int .i64 x1 := hI.val 3 _ 71 rfl rfl rfl
                have f72 : a.tmps.getD 72 undef = .int .i64 (u1 : Nat) := hI.val 4 _ 72 rfl rfl rfl
                have f73 : a.tmps.getD 73 undef = .int .u32 (u1 : Nat) := hI.val 5 _ 73 rfl rfl rfl
                have f74 : a.tmps.getD 74 undef = .string ⟨(numL 5 u1).toArray⟩ := hI.val 6 _ 74 rfl rfl rfl
                have f75 : a.tmps.getD 75 undef = .pointer (some ⟨wp.heap.size, 1, none⟩) := hI.val 7 _ 75 rfl rfl rfl
                have f76 : a.tmps.getD 76 undef = .int .i64 x1 := hI.val 8 _ 76 rfl rfl rfl
                have f77 : a.tmps.getD 77 undef = .pointer (some ⟨wp.heap.size, 2, none⟩) := hI.val 9 _ 77 rfl rfl rfl
                have f78 : a.tmps.getD 78 undef = .int .i64 x2 := hI.val 10 _ 78 rfl rfl rfl
                have f79 : a.tmps.getD 79 undef = .int .i64 (u2 : Nat) := hI.val 11 _ 79 rfl rfl rfl
                have f80 : a.tmps.getD 80 undef = .int .u32 (u2 : Nat) := hI.val 12 _ 80 rfl rfl rfl
                have f81 : a.tmps.getD 81 undef = .string ⟨(numL 5 u2).toArray⟩ := hI.val 13 _ 81 rfl rfl rfl
                have f82 : a.tmps.getD 82 undef = .string ((⟨(numL 5 u1).toArray⟩ : ByteArray) ++ (⟨(numL 5 u2).toArray⟩ : ByteArray)) := hI.val 14 _ 82 rfl rfl rfl
                have ha : a = ⟨#[a.tmps.getD 0 undef, a.tmps.getD 1 undef, a.tmps.getD 2 undef, a.tmps.getD 3 undef, a.tmps.getD 4 undef, a.tmps.getD 5 undef, a.tmps.getD 6 undef, a.tmps.getD 7 undef, a.tmps.getD 8 undef, a.tmps.getD 9 undef, a.tmps.getD 10 undef, a.tmps.getD 11 undef, a.tmps.getD 12 undef, a.tmps.getD 13 undef, a.tmps.getD 14 undef, a.tmps.getD 15 undef, a.tmps.getD 16 undef, a.tmps.getD 17 undef, a.tmps.getD 18 undef, a.tmps.getD 19 undef, a.tmps.getD 20 undef, a.tmps.getD 21 undef, a.tmps.getD 22 undef, a.tmps.getD 23 undef, a.tmps.getD 24 undef, a.tmps.getD 25 undef, a.tmps.getD 26 undef, a.tmps.getD 27 undef, a.tmps.getD 28 undef, a.tmps.getD 29 undef, a.tmps.getD 30 undef, a.tmps.getD 31 undef, a.tmps.getD 32 undef, a.tmps.getD 33 undef, a.tmps.getD 34 undef, a.tmps.getD 35 undef, a.tmps.getD 36 undef, a.tmps.getD 37 undef, a.tmps.getD 38 undef, a.tmps.getD 39 undef, a.tmps.getD 40 undef, a.tmps.getD 41 undef, a.tmps.getD 42 undef, a.tmps.getD 43 undef, a.tmps.getD 44 undef, a.tmps.getD 45 undef, a.tmps.getD 46 undef, a.tmps.getD 47 undef, a.tmps.getD 48 undef, a.tmps.getD 49 undef, a.tmps.getD 50 undef, a.tmps.getD 51 undef, a.tmps.getD 52 undef, a.tmps.getD 53 undef, a.tmps.getD 54 undef, a.tmps.getD 55 undef, a.tmps.getD 56 undef, a.tmps.getD 57 undef, a.tmps.getD 58 undef, a.tmps.getD 59 undef, a.tmps.getD 60 undef, a.tmps.getD 61 undef, a.tmps.getD 62 undef, a.tmps.getD 63 undef, a.tmps.getD 64 undef, a.tmps.getD 65 undef, a.tmps.getD 66 undef, a.tmps.getD 67 undef, a.tmps.getD 68 undef, a.tmps.getD 69 undef, a.tmps.getD 70 undef, a.tmps.getD 71 undef, a.tmps.getD 72 undef, a.tmps.getD 73 undef, a.tmps.getD 74 undef, a.tmps.getD 75 undef, a.tmps.getD 76 undef, a.tmps.getD 77 undef, a.tmps.getD 78 undef, a.tmps.getD 79 undef, a.tmps.getD 80 undef, a.tmps.getD 81 undef, a.tmps.getD 82 undef, a.tmps.getD 83 undef, a.tmps.getD 84 undef, a.tmps.getD 85 undef], a.defers⟩ := act_list a 86 hsz
                rw [hdf, f0, f1, f2, f3, f4, f5, f6, f7, f8, f9, f10, f11, f12, f13, f14, f15, f16, f17, f18, f19, f20, f21, f22, f23, f24, f25, f26, f27, f28, f29, f30, f31, f32, f33, f34, f35, f36, f37, f38, f39, f40, f41, f42, f43, f44, f45, f46, f47, f48, f49, f50, f51, f52, f53, f54, f55, f56, f57, f58, f59, f60, f61, f62, f63, f64, f65, f66, f67, f68, f69, f70, f71, f72, f73, f74, f75, f76, f77, f78, f79, f80, f81, f82, f83, f84, f85] at ha
                have hku := hI.kp
                clear hI hsz hdf f0 f1 f2 f3 f4 f5 f6 f7 f8 f9 f10 f11 f12 f13 f14 f15 f16 f17 f18 f19 f20 f21 f22 f23 f24 f25 f26 f27 f28 f29 f30 f31 f32 f33 f34 f35 f36 f37 f38 f39 f40 f41 f42 f43 f44 f45 f46 f47 f48 f49 f50 f51 f52 f53 f54 f55 f56 f57 f58 f59 f60 f61 f62 f63 f64 f65 f66 f67 f68 f69 f70 f71 f72 f73 f74 f75 f76 f77 f78 f79 f80 f81 f82 f83 f84 f85 
                subst ha
                refine wpAny_tail 15 rfl (by kernel_rfl) ?_
                simp only [List.drop_succ_cons, List.drop_zero]
                have HWu := Lib.hid (HWv.out.kp' hku)
                clear hku
                simp only [Array.getD_eq_getD_getElem?, List.getElem?_toArray, List.getElem?_cons_zero, List.getElem?_cons_succ, Option.getD_some]
                go_wp2_with (go_at_call 16; refine (ws_str HWu.out (numL 5 u1 ++ numL 5 u2) _ (cat_bytes _ _) HI.out).mono ?_; rintro e w6 ⟨⟨v, rfl⟩, hW6, hK6⟩; have HW6 := Lib.hid hW6; clear hW6 hK6)
                go_roundw
                case rel => exact ⟨j + 1, by go_num, by omega, by rw [HTk.out, ← List.append_assoc]; exact HW6.out⟩
                case measure => simp [intOf]; omega
            · obtain rfl : j = C.gates.length := by omega
              have HWn := Lib.hid (show WS w wp B V C (binB C) by rw [HAll.out]; have := HW.out; rwa [List.take_length] at this)
              go_wp2_with (go_at_call 20; refine (ws_end HWn.out).mono ?_; rintro e w7 ⟨rfl, hK7⟩; have HK7 := Lib.hid hK7; clear hK7)
              go_ret2
              exact ⟨.inl ⟨HNn.out, rfl⟩, HK7.out⟩

end Go.Proofs.YtmjcpapcmbgkjaaDoor

/-
  binary's reader of a text: step, digits, sign, delta, ended. (Printed by mkbintext.py.)
-/
namespace Go.Proofs.YtmjcpapcmbgkjaaDoor
open Go.RowKit Go.Shelf

/-- the reader, at p, with its error -/
def TX (w : World) (b : Nat) (s : ByteArray) (st : Nat × Nat) : Prop := Blk w b #[.string s, .int .i64 (st.1 : Nat), .int .i64 (st.2 : Nat)] 66
theorem TX.kp {w w' : World} {b : Nat} {s : ByteArray} {st : Nat × Nat} {S : Nat → Prop} (h : TX w b s st) (k : Kp S w w') (hb : ¬ S b) : TX w' b s st := Blk.kp h k hb
theorem TX.cells {w : World} {b : Nat} {s : ByteArray} {st : Nat × Nat} (h : TX w b s st) : w.cell? ⟨b, 0, none⟩ = some (.string s) ∧ w.cell? ⟨b, 1, none⟩ = some (.int .i64 (st.1 : Nat)) ∧ w.cell? ⟨b, 2, none⟩ = some (.int .i64 (st.2 : Nat)) ∧ w.frozen? ⟨b, 1, none⟩ = false ∧ w.frozen? ⟨b, 2, none⟩ = false :=
  ⟨h.cell rfl, h.cell rfl, h.cell rfl, Blk.free h 1, Blk.free h 2⟩

/-- what digits tells, and where the reader is then -/
def rdD (s : ByteArray) (top : Int) (st : Nat × Nat) : Nat × Nat × Nat :=
  if st.2 ≠ 0 then (0, st) else if (natN s st.1).2.2 ≠ 0 then (0, st.1, (natN s st.1).2.2) else if top < ((natN s st.1).1 : Int) then (0, st.1, 5) else ((natN s st.1).1, (natN s st.1).2.1, 0)
/-- what sign tells -/
def rdS (s : ByteArray) (ok : Nat → Bool) (st : Nat × Nat) : Nat × Nat × Nat :=
  if st.2 ≠ 0 then (0, st) else if st.1 = s.size then (0, st.1, 3) else if ok (bt s st.1) = false then (0, st.1, 2) else (bt s st.1, st.1 + 1, 0)
/-- what delta tells -/
def rdG (s : ByteArray) (least top : Int) (st : Nat × Nat) : Nat × Nat × Nat :=
  if st.2 ≠ 0 then (0, st) else if (getN s st.1).2.2 ≠ 0 then (0, st.1, (getN s st.1).2.2) else if ((getN s st.1).1 : Int) < least ∨ top < ((getN s st.1).1 : Int) then (0, st.1, 5) else ((getN s st.1).1, (getN s st.1).2.1, 0)

theorem getR_lt (s : ByteArray) (p : Nat) : ∀ (r k a : Nat), k + r = 5 → a < 128 ^ k → (getR s p r k a).1 < 4294967296
  | 0, k, a, _, _ => by simp [getR]
  | r + 1, k, a, hk, ha => by
    unfold getR
    by_cases c1 : p + k = s.size
    · rw [if_pos c1]; simp
    rw [if_neg c1]
    by_cases c2 : k = 4 ∧ 15 < bt s (p + k)
    · rw [if_pos c2]; simp
    rw [if_neg c2]
    by_cases c3 : 0 < k ∧ bt s (p + k) = 0
    · rw [if_pos c3]; simp
    rw [if_neg c3]
    have c2' : k ≠ 4 ∨ bt s (p + k) ≤ 15 := by omega
    clear c1 c2 c3
    generalize bt s (p + k) = x at c2' ⊢
    have hm : x % 128 < 128 := Nat.mod_lt _ (by decide)
    have hn : a + x % 128 * 128 ^ k < 128 ^ (k + 1) := by
      have h1 : x % 128 * 128 ^ k ≤ 127 * 128 ^ k := Nat.mul_le_mul_right _ (by omega)
      rw [Nat.pow_succ]; omega
    by_cases c4 : x < 128
    · rw [if_pos c4]
      show a + x % 128 * 128 ^ k < _
      have hk5 : k = 0 ∨ k = 1 ∨ k = 2 ∨ k = 3 ∨ k = 4 := by omega
      rcases hk5 with rfl | rfl | rfl | rfl | rfl <;> simp only [Nat.reducePow, Nat.reduceAdd] at * <;> omega
    · rw [if_neg c4]
      exact getR_lt s p r (k + 1) _ (by omega) hn

set_option maxRecDepth 100000 in
set_option maxHeartbeats 1000000 in
theorem bin_step_ok (s : ByteArray) (b p q : Nat) (w : World) (hB : TX w b s (p, 0)) :
    Calls Tryd.prog 88 #[.pointer (some ⟨b, 0, none⟩), .int .i64 (q : Nat), .int .i64 0] w fun e w' => e = .returned (.bool true) ∧ TX w' b s (q, 0) ∧ Kp (fun j => j = b) w w' := by
  obtain ⟨b0, b1, b2, f1, f2⟩ := hB.cells
  have HB := Lib.hid hB
  clear hB
  go_enter Tryd.func88, Tryd.ntmps88
  go_wp2_with fail
  go_ret
  exact ⟨rfl, Blk.set_same HB.out 1 _, (Kp.refl (fun j => j = b) w).setCell (p := ⟨b, 1, none⟩) (fun _ => rfl) _⟩

set_option maxRecDepth 100000 in
set_option maxHeartbeats 1000000 in
theorem bin_step_err (s : ByteArray) (b p e2 : Nat) (q : Int) (w : World) (h2 : e2 ≠ 0) (hB : TX w b s (p, 0)) :
    Calls Tryd.prog 88 #[.pointer (some ⟨b, 0, none⟩), .int .i64 q, .int .i64 (e2 : Nat)] w fun e w' => e = .returned (.bool false) ∧ TX w' b s (p, e2) ∧ Kp (fun j => j = b) w w' := by
  obtain ⟨b0, b1, b2, f1, f2⟩ := hB.cells
  have HB := Lib.hid hB
  have q2 : ((e2 : Int) == 0) = false := by rw [beq_eq_false_iff_ne]; omega
  have q3 : ((e2 : Int) != 0) = true := by simp [h2]
  clear hB h2
  go_enter Tryd.func88, Tryd.ntmps88
  go_wp2_with fail
  go_ret
  exact ⟨rfl, Blk.set_same HB.out 2 _, (Kp.refl (fun j => j = b) w).setCell (p := ⟨b, 2, none⟩) (fun _ => rfl) _⟩

set_option maxRecDepth 100000 in
set_option maxHeartbeats 1000000 in
theorem bin_step_stay (s : ByteArray) (b p e1 : Nat) (q e2 : Int) (w : World) (h1 : e1 ≠ 0) (hB : TX w b s (p, e1)) :
    Calls Tryd.prog 88 #[.pointer (some ⟨b, 0, none⟩), .int .i64 q, .int .i64 e2] w fun e w' => e = .returned (.bool false) ∧ TX w' b s (p, e1) ∧ Kp (fun j => j = b) w w' := by
  obtain ⟨b0, b1, b2, f1, f2⟩ := hB.cells
  have HB := Lib.hid hB
  have q2 : ((e1 : Int) == 0) = false := by rw [beq_eq_false_iff_ne]; omega
  have q3 : ((e1 : Int) != 0) = true := by simp [h1]
  clear hB h1
  go_enter Tryd.func88, Tryd.ntmps88
  go_wp2_with fail
  go_ret
  exact ⟨rfl, HB.out, Kp.refl _ _⟩

set_option maxRecDepth 100000 in
set_option maxHeartbeats 1000000 in
theorem bin_ended (s : ByteArray) (b : Nat) (st : Nat × Nat) (w : World) (hB : TX w b s st) :
    Calls Tryd.prog 24 #[.pointer (some ⟨b, 0, none⟩)] w fun e w' => e = .returned (.tuple #[.int .i64 (st.1 : Nat), .int .i64 (st.2 : Nat)]) ∧ Kp (fun _ => False) w w' := by
  obtain ⟨b0, b1, b2, f1, f2⟩ := hB.cells
  clear hB
  go_enter Tryd.func24, Tryd.ntmps24
  go_upto_region 1 with fail
  go_quiet (fail)
  go_wp2_with fail
  go_ret2
  exact ⟨rfl, (Kp.refl _ _).drewN _⟩

set_option maxRecDepth 100000 in
set_option maxHeartbeats 4000000 in
theorem bin_digits (s : ByteArray) (b p e1 : Nat) (top : Int) (w : World) (hs : s.size ≤ 1000000) (hp : p ≤ s.size) (hB : TX w b s (p, e1)) :
    Calls Tryd.prog 85 #[.pointer (some ⟨b, 0, none⟩), .int .i64 top] w fun e w' => e = .returned (.int .i64 ((rdD s top (p, e1)).1 : Nat)) ∧ TX w' b s (rdD s top (p, e1)).2 ∧ Kp (fun j => j = b) w w' := by
  obtain ⟨F, hF1, hF2⟩ := still_class w
  have HF1 := Lib.hid hF1
  have HF2 := Lib.hid hF2
  have HB := Lib.hid hB
  have m0 : ∀ y, (F y).cell? ⟨b, 0, none⟩ = some (.string s) := fun y => ((HB.out.kp (HF1.out y) (fun h => h)).cells).1
  have m1 : ∀ y, (F y).cell? ⟨b, 1, none⟩ = some (.int .i64 (p : Nat)) := fun y => ((HB.out.kp (HF1.out y) (fun h => h)).cells).2.1
  have HW := Lib.hid (fun y => octet_Nat_in s p (F y) (by omega) hp)
  obtain ⟨n, q, e2, hN⟩ : ∃ n q e2, natN s p = (n, q, e2) := ⟨_, _, _, rfl⟩
  obtain ⟨rr, hrr⟩ : ∃ rr, (rdD s top (p, e1)) = rr := ⟨_, rfl⟩
  rw [hrr]
  have hR := hrr
  unfold rdD at hR
  simp only at hR
  rw [hN] at hR HW
  simp only at hR
  unfold tripI at HW
  clear hF1 hF2 hB hrr
  by_cases he : e1 = 0
  · subst he
    rw [if_neg (by simp)] at hR
    by_cases h2 : e2 = 0
    · subst h2
      rw [if_neg (by simp)] at hR
      by_cases hg : top < (n : Int)
      · rw [if_pos hg] at hR
        subst hR
        have q0 : decide (top < (n : Int)) = true := decide_eq_true hg
        have HSt := Lib.hid (fun y => bin_step_err s b p 5 (q : Nat) (F y) (by decide) (HB.out.kp (HF1.out y) (fun h => h)))
        clear hN HB
        go_enter Tryd.func85, Tryd.ntmps85
        go_upto_region 1 with fail
        refine wp_region_kept (by kernel_rfl) (by kernel_rfl) HF2.out ?_
        repeat (go_big_quiet_step (with_reducible first | exact Calls.still_of HF1.out HF2.out (HW.out _)))
        refine wpQuiet_nil ?_
        rintro wB ⟨y, rfl⟩
        have HSy := Lib.hid (HSt.out y)
        clear m0 m1 HSt
        go_wp2_with (go_at_call 88; with_reducible refine Calls.mono HSy.out ?_; rintro e w1 ⟨rfl, hT, hK⟩)
        go_ret
        exact ⟨rfl, hT, ((HF1.out y).mono (fun _ _ h => h.elim)).trans hK (fun _ _ h => h)⟩
      · rw [if_neg hg] at hR
        subst hR
        have q0 : decide (top < (n : Int)) = false := decide_eq_false hg
        have HSt := Lib.hid (fun y => bin_step_ok s b p q (F y) (HB.out.kp (HF1.out y) (fun h => h)))
        clear hN HB
        go_enter Tryd.func85, Tryd.ntmps85
        go_upto_region 1 with fail
        refine wp_region_kept (by kernel_rfl) (by kernel_rfl) HF2.out ?_
        repeat (go_big_quiet_step (with_reducible first | exact Calls.still_of HF1.out HF2.out (HW.out _)))
        refine wpQuiet_nil ?_
        rintro wB ⟨y, rfl⟩
        have HSy := Lib.hid (HSt.out y)
        clear m0 m1 HSt
        go_wp2_with (go_at_call 88; with_reducible refine Calls.mono HSy.out ?_; rintro e w1 ⟨rfl, hT, hK⟩)
        go_ret
        exact ⟨rfl, hT, ((HF1.out y).mono (fun _ _ h => h.elim)).trans hK (fun _ _ h => h)⟩
    · rw [if_pos h2] at hR
      subst hR
      have q2 : ((e2 : Int) == 0) = false := by rw [beq_eq_false_iff_ne]; omega
      have HH2 := Lib.hid h2
      clear h2
      have HSt := Lib.hid (fun y => bin_step_err s b p e2 (q : Nat) (F y) HH2.out (HB.out.kp (HF1.out y) (fun h => h)))
      clear hN HB
      go_enter Tryd.func85, Tryd.ntmps85
      go_upto_region 1 with fail
      refine wp_region_kept (by kernel_rfl) (by kernel_rfl) HF2.out ?_
      repeat (go_big_quiet_step (with_reducible first | exact Calls.still_of HF1.out HF2.out (HW.out _)))
      refine wpQuiet_nil ?_
      rintro wB ⟨y, rfl⟩
      have HSy := Lib.hid (HSt.out y)
      clear m0 m1 HSt
      go_wp2_with (go_at_call 88; with_reducible refine Calls.mono HSy.out ?_; rintro e w1 ⟨rfl, hT, hK⟩)
      go_ret
      exact ⟨rfl, hT, ((HF1.out y).mono (fun _ _ h => h.elim)).trans hK (fun _ _ h => h)⟩
  · rw [if_pos he] at hR
    subst hR
    have HHe := Lib.hid he
    clear he
    by_cases h2 : e2 = 0
    · subst h2
      cases q0 : decide (top < (n : Int)) with
      | true =>
        have HSt := Lib.hid (fun y => bin_step_stay s b p e1 (q : Nat) 5 (F y) HHe.out (HB.out.kp (HF1.out y) (fun h => h)))
        clear hN HB
        go_enter Tryd.func85, Tryd.ntmps85
        go_upto_region 1 with fail
        refine wp_region_kept (by kernel_rfl) (by kernel_rfl) HF2.out ?_
        repeat (go_big_quiet_step (with_reducible first | exact Calls.still_of HF1.out HF2.out (HW.out _)))
        refine wpQuiet_nil ?_
        rintro wB ⟨y, rfl⟩
        have HSy := Lib.hid (HSt.out y)
        clear m0 m1 HSt
        go_wp2_with (go_at_call 88; with_reducible refine Calls.mono HSy.out ?_; rintro e w1 ⟨rfl, hT, hK⟩)
        go_ret
        exact ⟨rfl, hT, ((HF1.out y).mono (fun _ _ h => h.elim)).trans hK (fun _ _ h => h)⟩
      | false =>
        have HSt := Lib.hid (fun y => bin_step_stay s b p e1 (q : Nat) 0 (F y) HHe.out (HB.out.kp (HF1.out y) (fun h => h)))
        clear hN HB
        go_enter Tryd.func85, Tryd.ntmps85
        go_upto_region 1 with fail
        refine wp_region_kept (by kernel_rfl) (by kernel_rfl) HF2.out ?_
        repeat (go_big_quiet_step (with_reducible first | exact Calls.still_of HF1.out HF2.out (HW.out _)))
        refine wpQuiet_nil ?_
        rintro wB ⟨y, rfl⟩
        have HSy := Lib.hid (HSt.out y)
        clear m0 m1 HSt
        go_wp2_with (go_at_call 88; with_reducible refine Calls.mono HSy.out ?_; rintro e w1 ⟨rfl, hT, hK⟩)
        go_ret
        exact ⟨rfl, hT, ((HF1.out y).mono (fun _ _ h => h.elim)).trans hK (fun _ _ h => h)⟩
    · have q2 : ((e2 : Int) == 0) = false := by rw [beq_eq_false_iff_ne]; omega
      clear h2
      have HSt := Lib.hid (fun y => bin_step_stay s b p e1 (q : Nat) (e2 : Nat) (F y) HHe.out (HB.out.kp (HF1.out y) (fun h => h)))
      clear hN HB
      go_enter Tryd.func85, Tryd.ntmps85
      go_upto_region 1 with fail
      refine wp_region_kept (by kernel_rfl) (by kernel_rfl) HF2.out ?_
      repeat (go_big_quiet_step (with_reducible first | exact Calls.still_of HF1.out HF2.out (HW.out _)))
      refine wpQuiet_nil ?_
      rintro wB ⟨y, rfl⟩
      have HSy := Lib.hid (HSt.out y)
      clear m0 m1 HSt
      go_wp2_with (go_at_call 88; with_reducible refine Calls.mono HSy.out ?_; rintro e w1 ⟨rfl, hT, hK⟩)
      go_ret
      exact ⟨rfl, hT, ((HF1.out y).mono (fun _ _ h => h.elim)).trans hK (fun _ _ h => h)⟩

set_option maxRecDepth 100000 in
set_option maxHeartbeats 4000000 in
theorem bin_delta (s : ByteArray) (b p e1 : Nat) (least top : Int) (w : World) (hs : s.size ≤ 1000000) (hp : p ≤ s.size) (hB : TX w b s (p, e1)) :
    Calls Tryd.prog 84 #[.pointer (some ⟨b, 0, none⟩), .int .i64 least, .int .i64 top] w fun e w' => e = .returned (.int .i64 ((rdG s least top (p, e1)).1 : Nat)) ∧ TX w' b s (rdG s least top (p, e1)).2 ∧ Kp (fun j => j = b) w w' := by
  obtain ⟨F, hF1, hF2⟩ := still_class w
  have HF1 := Lib.hid hF1
  have HF2 := Lib.hid hF2
  have HB := Lib.hid hB
  have m0 : ∀ y, (F y).cell? ⟨b, 0, none⟩ = some (.string s) := fun y => ((HB.out.kp (HF1.out y) (fun h => h)).cells).1
  have m1 : ∀ y, (F y).cell? ⟨b, 1, none⟩ = some (.int .i64 (p : Nat)) := fun y => ((HB.out.kp (HF1.out y) (fun h => h)).cells).2.1
  have HW := Lib.hid (fun y => (octet_Get_in s p (F y) (by omega) hp).mono (R' := fun e w' => e = .returned (tripV (getN s p)) ∧ Kp (fun _ => False) (F y) w') (fun e w' ⟨h1, h2⟩ => ⟨h1, h2 ▸ Kp.refl _ _⟩))
  obtain ⟨n, q, e2, hN⟩ : ∃ n q e2, getN s p = (n, q, e2) := ⟨_, _, _, rfl⟩
  obtain ⟨rr, hrr⟩ : ∃ rr, (rdG s least top (p, e1)) = rr := ⟨_, rfl⟩
  rw [hrr]
  have hR := hrr
  unfold rdG at hR
  simp only at hR
  rw [hN] at hR HW
  simp only at hR
  unfold tripV at HW
  clear hF1 hF2 hB hrr
  have hw : wrap64 (n : Int) = (n : Int) := by
    have h3 := getR_lt s p 5 0 0 rfl (by decide)
    have h4 : (getN s p).1 = n := by rw [hN]
    unfold getN at h4
    rw [h4] at h3
    unfold wrap64
    omega
  by_cases he : e1 = 0
  · subst he
    rw [if_neg (by simp)] at hR
    by_cases h2 : e2 = 0
    · subst h2
      rw [if_neg (by simp)] at hR
      by_cases hg : (n : Int) < least ∨ top < (n : Int)
      · rw [if_pos hg] at hR
        subst hR
        rcases hg with hg | hg
        · have q0 : decide ((n : Int) < least) = true := decide_eq_true hg
          have HSt := Lib.hid (fun y => bin_step_err s b p 5 (q : Nat) (F y) (by decide) (HB.out.kp (HF1.out y) (fun h => h)))
          clear hN HB
          go_enter Tryd.func84, Tryd.ntmps84
          go_upto_region 1 with fail
          refine wp_region_kept (by kernel_rfl) (by kernel_rfl) HF2.out ?_
          repeat (go_big_quiet_step (with_reducible first | exact Calls.still_of HF1.out HF2.out (HW.out _)))
          refine wpQuiet_nil ?_
          rintro wB ⟨y, rfl⟩
          have HSy := Lib.hid (HSt.out y)
          clear m0 m1 HSt
          go_wp2_with (go_at_call 88; with_reducible refine Calls.mono HSy.out ?_; rintro e w1 ⟨rfl, hT, hK⟩)
          go_ret
          exact ⟨rfl, hT, ((HF1.out y).mono (fun _ _ h => h.elim)).trans hK (fun _ _ h => h)⟩
        · have q0 : decide ((n : Int) < least) = false ∨ decide ((n : Int) < least) = true := by cases decide ((n : Int) < least) <;> simp
          rcases q0 with q0 | q0
          · have q1 : decide (top < (n : Int)) = true := decide_eq_true hg
            have HSt := Lib.hid (fun y => bin_step_err s b p 5 (q : Nat) (F y) (by decide) (HB.out.kp (HF1.out y) (fun h => h)))
            clear hN HB
            go_enter Tryd.func84, Tryd.ntmps84
            go_upto_region 1 with fail
            refine wp_region_kept (by kernel_rfl) (by kernel_rfl) HF2.out ?_
            repeat (go_big_quiet_step (with_reducible first | exact Calls.still_of HF1.out HF2.out (HW.out _)))
            refine wpQuiet_nil ?_
            rintro wB ⟨y, rfl⟩
            have HSy := Lib.hid (HSt.out y)
            clear m0 m1 HSt
            go_wp2_with (go_at_call 88; with_reducible refine Calls.mono HSy.out ?_; rintro e w1 ⟨rfl, hT, hK⟩)
            go_ret
            exact ⟨rfl, hT, ((HF1.out y).mono (fun _ _ h => h.elim)).trans hK (fun _ _ h => h)⟩
          · have HSt := Lib.hid (fun y => bin_step_err s b p 5 (q : Nat) (F y) (by decide) (HB.out.kp (HF1.out y) (fun h => h)))
            clear hN HB
            go_enter Tryd.func84, Tryd.ntmps84
            go_upto_region 1 with fail
            refine wp_region_kept (by kernel_rfl) (by kernel_rfl) HF2.out ?_
            repeat (go_big_quiet_step (with_reducible first | exact Calls.still_of HF1.out HF2.out (HW.out _)))
            refine wpQuiet_nil ?_
            rintro wB ⟨y, rfl⟩
            have HSy := Lib.hid (HSt.out y)
            clear m0 m1 HSt
            go_wp2_with (go_at_call 88; with_reducible refine Calls.mono HSy.out ?_; rintro e w1 ⟨rfl, hT, hK⟩)
            go_ret
            exact ⟨rfl, hT, ((HF1.out y).mono (fun _ _ h => h.elim)).trans hK (fun _ _ h => h)⟩
      · rw [if_neg hg] at hR
        subst hR
        have q0 : decide ((n : Int) < least) = false := decide_eq_false (fun h => hg (.inl h))
        have q1 : decide (top < (n : Int)) = false := decide_eq_false (fun h => hg (.inr h))
        have HSt := Lib.hid (fun y => bin_step_ok s b p q (F y) (HB.out.kp (HF1.out y) (fun h => h)))
        clear hN HB
        go_enter Tryd.func84, Tryd.ntmps84
        go_upto_region 1 with fail
        refine wp_region_kept (by kernel_rfl) (by kernel_rfl) HF2.out ?_
        repeat (go_big_quiet_step (with_reducible first | exact Calls.still_of HF1.out HF2.out (HW.out _)))
        refine wpQuiet_nil ?_
        rintro wB ⟨y, rfl⟩
        have HSy := Lib.hid (HSt.out y)
        clear m0 m1 HSt
        go_wp2_with (go_at_call 88; with_reducible refine Calls.mono HSy.out ?_; rintro e w1 ⟨rfl, hT, hK⟩)
        go_ret
        exact ⟨(by first | rfl | (show Ending.returned (Value.int .i64 (wrap64 (n : Int))) = _; rw [hw])), hT, ((HF1.out y).mono (fun _ _ h => h.elim)).trans hK (fun _ _ h => h)⟩
    · rw [if_pos h2] at hR
      subst hR
      have q2 : ((e2 : Int) == 0) = false := by rw [beq_eq_false_iff_ne]; omega
      have HH2 := Lib.hid h2
      clear h2
      have HSt := Lib.hid (fun y => bin_step_err s b p e2 (q : Nat) (F y) HH2.out (HB.out.kp (HF1.out y) (fun h => h)))
      clear hN HB
      go_enter Tryd.func84, Tryd.ntmps84
      go_upto_region 1 with fail
      refine wp_region_kept (by kernel_rfl) (by kernel_rfl) HF2.out ?_
      repeat (go_big_quiet_step (with_reducible first | exact Calls.still_of HF1.out HF2.out (HW.out _)))
      refine wpQuiet_nil ?_
      rintro wB ⟨y, rfl⟩
      have HSy := Lib.hid (HSt.out y)
      clear m0 m1 HSt
      go_wp2_with (go_at_call 88; with_reducible refine Calls.mono HSy.out ?_; rintro e w1 ⟨rfl, hT, hK⟩)
      go_ret
      exact ⟨rfl, hT, ((HF1.out y).mono (fun _ _ h => h.elim)).trans hK (fun _ _ h => h)⟩
  · rw [if_pos he] at hR
    subst hR
    have HHe := Lib.hid he
    clear he
    by_cases h2 : e2 = 0
    · subst h2
      cases q0 : decide ((n : Int) < least) with
      | true =>
        have HSt := Lib.hid (fun y => bin_step_stay s b p e1 (q : Nat) 5 (F y) HHe.out (HB.out.kp (HF1.out y) (fun h => h)))
        clear hN HB
        go_enter Tryd.func84, Tryd.ntmps84
        go_upto_region 1 with fail
        refine wp_region_kept (by kernel_rfl) (by kernel_rfl) HF2.out ?_
        repeat (go_big_quiet_step (with_reducible first | exact Calls.still_of HF1.out HF2.out (HW.out _)))
        refine wpQuiet_nil ?_
        rintro wB ⟨y, rfl⟩
        have HSy := Lib.hid (HSt.out y)
        clear m0 m1 HSt
        go_wp2_with (go_at_call 88; with_reducible refine Calls.mono HSy.out ?_; rintro e w1 ⟨rfl, hT, hK⟩)
        go_ret
        exact ⟨rfl, hT, ((HF1.out y).mono (fun _ _ h => h.elim)).trans hK (fun _ _ h => h)⟩
      | false =>
        cases q1 : decide (top < (n : Int)) with
        | true =>
          have HSt := Lib.hid (fun y => bin_step_stay s b p e1 (q : Nat) 5 (F y) HHe.out (HB.out.kp (HF1.out y) (fun h => h)))
          clear hN HB
          go_enter Tryd.func84, Tryd.ntmps84
          go_upto_region 1 with fail
          refine wp_region_kept (by kernel_rfl) (by kernel_rfl) HF2.out ?_
          repeat (go_big_quiet_step (with_reducible first | exact Calls.still_of HF1.out HF2.out (HW.out _)))
          refine wpQuiet_nil ?_
          rintro wB ⟨y, rfl⟩
          have HSy := Lib.hid (HSt.out y)
          clear m0 m1 HSt
          go_wp2_with (go_at_call 88; with_reducible refine Calls.mono HSy.out ?_; rintro e w1 ⟨rfl, hT, hK⟩)
          go_ret
          exact ⟨rfl, hT, ((HF1.out y).mono (fun _ _ h => h.elim)).trans hK (fun _ _ h => h)⟩
        | false =>
          have HSt := Lib.hid (fun y => bin_step_stay s b p e1 (q : Nat) 0 (F y) HHe.out (HB.out.kp (HF1.out y) (fun h => h)))
          clear hN HB
          go_enter Tryd.func84, Tryd.ntmps84
          go_upto_region 1 with fail
          refine wp_region_kept (by kernel_rfl) (by kernel_rfl) HF2.out ?_
          repeat (go_big_quiet_step (with_reducible first | exact Calls.still_of HF1.out HF2.out (HW.out _)))
          refine wpQuiet_nil ?_
          rintro wB ⟨y, rfl⟩
          have HSy := Lib.hid (HSt.out y)
          clear m0 m1 HSt
          go_wp2_with (go_at_call 88; with_reducible refine Calls.mono HSy.out ?_; rintro e w1 ⟨rfl, hT, hK⟩)
          go_ret
          exact ⟨rfl, hT, ((HF1.out y).mono (fun _ _ h => h.elim)).trans hK (fun _ _ h => h)⟩
    · have q2 : ((e2 : Int) == 0) = false := by rw [beq_eq_false_iff_ne]; omega
      clear h2
      have HSt := Lib.hid (fun y => bin_step_stay s b p e1 (q : Nat) (e2 : Nat) (F y) HHe.out (HB.out.kp (HF1.out y) (fun h => h)))
      clear hN HB
      go_enter Tryd.func84, Tryd.ntmps84
      go_upto_region 1 with fail
      refine wp_region_kept (by kernel_rfl) (by kernel_rfl) HF2.out ?_
      repeat (go_big_quiet_step (with_reducible first | exact Calls.still_of HF1.out HF2.out (HW.out _)))
      refine wpQuiet_nil ?_
      rintro wB ⟨y, rfl⟩
      have HSy := Lib.hid (HSt.out y)
      clear m0 m1 HSt
      go_wp2_with (go_at_call 88; with_reducible refine Calls.mono HSy.out ?_; rintro e w1 ⟨rfl, hT, hK⟩)
      go_ret
      exact ⟨rfl, hT, ((HF1.out y).mono (fun _ _ h => h.elim)).trans hK (fun _ _ h => h)⟩

set_option maxRecDepth 100000 in
set_option maxHeartbeats 4000000 in
theorem bin_sign (s some_ : ByteArray) (ok : Nat → Bool) (b p e1 : Nat) (w : World) (hs : s.size ≤ 1000000) (hp : p ≤ s.size) (hidx : ∀ c, c < 256 → decide (Lib.indexByte some_.data.toList c.toUInt8 < 0) = !ok c) (hB : TX w b s (p, e1)) :
    Calls Tryd.prog 86 #[.pointer (some ⟨b, 0, none⟩), .string some_] w fun e w' => e = .returned (.int .u8 ((rdS s ok (p, e1)).1 : Nat)) ∧ TX w' b s (rdS s ok (p, e1)).2 ∧ Kp (fun j => j = b) w w' := by
  obtain ⟨rr, hR⟩ : ∃ rr, rdS s ok (p, e1) = rr := ⟨_, rfl⟩
  rw [hR]
  unfold rdS at hR
  simp only at hR
  obtain ⟨b0, b1, b2, f1, f2⟩ := hB.cells
  have HB := Lib.hid hB
  clear hB
  by_cases hlt : p = s.size
  · have t1 : ((p : Int) == (s.size : Int)) = true := by rw [beq_iff_eq]; omega
    rw [if_pos hlt] at hR
    have HP := Lib.hid hlt
    clear hlt hidx
    by_cases he : e1 = 0
    · subst he
      rw [if_neg (by simp)] at hR
      subst hR
      have HSt := Lib.hid (fun u (hu : Kp (fun _ => False) w u) => bin_step_err s b p 3 ((p : Int) + 1) u (by decide) (HB.out.kp hu (fun h => h)))
      clear HB
      go_enter Tryd.func86, Tryd.ntmps86
      go_upto_region 3 with fail
      go_quiet (fail)
      go_wp2_with fail
      refine Calls.mono (HSt.out _ (by first | exact (Kp.refl _ _).drewN _ | exact ((Kp.refl _ _).drewN _).drewN _ | exact (((Kp.refl _ _).drewN _).drewN _).drewN _)) ?_
      rintro e w1 ⟨rfl, hT, hK⟩
      have HE := Lib.hid (And.intro hT (show Kp (fun j => j = b) w w1 from Kp.trans (by first | exact (Kp.refl _ _).drewN _ | exact ((Kp.refl _ _).drewN _).drewN _ | exact (((Kp.refl _ _).drewN _).drewN _).drewN _) hK (fun _ _ h => h)))
      clear hT hK
      go_wp2_with fail
      go_ret
      exact ⟨rfl, HE.out⟩
    · rw [if_pos he] at hR
      subst hR
      have HHe := Lib.hid he
      clear he
      have HSt := Lib.hid (fun u (hu : Kp (fun _ => False) w u) => bin_step_stay s b p e1 ((p : Int) + 1) 3 u HHe.out (HB.out.kp hu (fun h => h)))
      clear HB
      go_enter Tryd.func86, Tryd.ntmps86
      go_upto_region 3 with fail
      go_quiet (fail)
      go_wp2_with fail
      refine Calls.mono (HSt.out _ (by first | exact (Kp.refl _ _).drewN _ | exact ((Kp.refl _ _).drewN _).drewN _ | exact (((Kp.refl _ _).drewN _).drewN _).drewN _)) ?_
      rintro e w1 ⟨rfl, hT, hK⟩
      have HE := Lib.hid (And.intro hT (show Kp (fun j => j = b) w w1 from Kp.trans (by first | exact (Kp.refl _ _).drewN _ | exact ((Kp.refl _ _).drewN _).drewN _ | exact (((Kp.refl _ _).drewN _).drewN _).drewN _) hK (fun _ _ h => h)))
      clear hT hK
      go_wp2_with fail
      go_ret
      exact ⟨rfl, HE.out⟩
  · have hlt2 : p < s.size := by omega
    rw [if_neg hlt] at hR
    have t1 : ((p : Int) == (s.size : Int)) = false := by rw [beq_eq_false_iff_ne]; omega
    have l1 : (p : Int) < (s.size : Int) := by omega
    have hb := bt_eq hlt2
    obtain ⟨c, hc⟩ : ∃ c, bt s p = c := ⟨_, rfl⟩
    have hix := hidx c (by rw [← hc]; exact bt_lt s p)
    rw [hc] at hb hR
    have HIx := Lib.hid (fun u => Tryd.strings_IndexByte some_ (c : Nat) u)
    obtain ⟨i, hi⟩ : ∃ i, Lib.indexByte some_.data.toList c.toUInt8 = i := ⟨_, rfl⟩
    rw [Int.toNat_natCast, hi] at HIx
    rw [hi] at hix
    clear hidx hc hi hlt
    cases hok : ok c with
    | true =>
      rw [hok] at hix hR
      rw [if_neg (show ¬ (true = false) by simp)] at hR
      simp only [Bool.not_true] at hix
      have HOk := Lib.hid hok
      clear hok
      by_cases he : e1 = 0
      · subst he
        rw [if_neg (by simp)] at hR
        subst hR
        have HSt := Lib.hid (fun u (hu : Kp (fun _ => False) w u) => bin_step_ok s b p (p + 1) u (HB.out.kp hu (fun h => h)))
        clear HB
        go_enter Tryd.func86, Tryd.ntmps86
        go_upto_region 3 with fail
        go_quiet (fail)
        go_wp2_with fail
        go_quiet ((go_at_call 90; exact (HIx.out _).mono (fun e u' ⟨h1, h2⟩ => ⟨h1, _, h2⟩)))
        go_wp2_with fail
        go_quiet (fail)
        go_wp2_with fail
        refine Calls.mono (HSt.out _ (by first | exact (Kp.refl _ _).drewN _ | exact ((Kp.refl _ _).drewN _).drewN _ | exact (((Kp.refl _ _).drewN _).drewN _).drewN _)) ?_
        rintro e w1 ⟨rfl, hT, hK⟩
        have HE := Lib.hid (And.intro hT (show Kp (fun j => j = b) w w1 from Kp.trans (by first | exact (Kp.refl _ _).drewN _ | exact ((Kp.refl _ _).drewN _).drewN _ | exact (((Kp.refl _ _).drewN _).drewN _).drewN _) hK (fun _ _ h => h)))
        clear hT hK
        go_wp2_with fail
        go_ret
        exact ⟨rfl, HE.out⟩
      · rw [if_pos he] at hR
        subst hR
        have HHe := Lib.hid he
        clear he
        have HSt := Lib.hid (fun u (hu : Kp (fun _ => False) w u) => bin_step_stay s b p e1 ((p : Int) + 1) 0 u HHe.out (HB.out.kp hu (fun h => h)))
        clear HB
        go_enter Tryd.func86, Tryd.ntmps86
        go_upto_region 3 with fail
        go_quiet (fail)
        go_wp2_with fail
        go_quiet ((go_at_call 90; exact (HIx.out _).mono (fun e u' ⟨h1, h2⟩ => ⟨h1, _, h2⟩)))
        go_wp2_with fail
        go_quiet (fail)
        go_wp2_with fail
        refine Calls.mono (HSt.out _ (by first | exact (Kp.refl _ _).drewN _ | exact ((Kp.refl _ _).drewN _).drewN _ | exact (((Kp.refl _ _).drewN _).drewN _).drewN _)) ?_
        rintro e w1 ⟨rfl, hT, hK⟩
        have HE := Lib.hid (And.intro hT (show Kp (fun j => j = b) w w1 from Kp.trans (by first | exact (Kp.refl _ _).drewN _ | exact ((Kp.refl _ _).drewN _).drewN _ | exact (((Kp.refl _ _).drewN _).drewN _).drewN _) hK (fun _ _ h => h)))
        clear hT hK
        go_wp2_with fail
        go_ret
        exact ⟨rfl, HE.out⟩
    | false =>
      rw [hok] at hix hR
      rw [if_pos (show (false = false) from rfl)] at hR
      simp only [Bool.not_false] at hix
      have HOk := Lib.hid hok
      clear hok
      by_cases he : e1 = 0
      · subst he
        rw [if_neg (by simp)] at hR
        subst hR
        have HSt := Lib.hid (fun u (hu : Kp (fun _ => False) w u) => bin_step_err s b p 2 ((p : Int) + 1) u (by decide) (HB.out.kp hu (fun h => h)))
        clear HB
        go_enter Tryd.func86, Tryd.ntmps86
        go_upto_region 3 with fail
        go_quiet (fail)
        go_wp2_with fail
        go_quiet ((go_at_call 90; exact (HIx.out _).mono (fun e u' ⟨h1, h2⟩ => ⟨h1, _, h2⟩)))
        go_wp2_with fail
        refine Calls.mono (HSt.out _ (by first | exact (Kp.refl _ _).drewN _ | exact ((Kp.refl _ _).drewN _).drewN _ | exact (((Kp.refl _ _).drewN _).drewN _).drewN _)) ?_
        rintro e w1 ⟨rfl, hT, hK⟩
        have HE := Lib.hid (And.intro hT (show Kp (fun j => j = b) w w1 from Kp.trans (by first | exact (Kp.refl _ _).drewN _ | exact ((Kp.refl _ _).drewN _).drewN _ | exact (((Kp.refl _ _).drewN _).drewN _).drewN _) hK (fun _ _ h => h)))
        clear hT hK
        go_wp2_with fail
        go_ret
        exact ⟨rfl, HE.out⟩
      · rw [if_pos he] at hR
        subst hR
        have HHe := Lib.hid he
        clear he
        have HSt := Lib.hid (fun u (hu : Kp (fun _ => False) w u) => bin_step_stay s b p e1 ((p : Int) + 1) 2 u HHe.out (HB.out.kp hu (fun h => h)))
        clear HB
        go_enter Tryd.func86, Tryd.ntmps86
        go_upto_region 3 with fail
        go_quiet (fail)
        go_wp2_with fail
        go_quiet ((go_at_call 90; exact (HIx.out _).mono (fun e u' ⟨h1, h2⟩ => ⟨h1, _, h2⟩)))
        go_wp2_with fail
        refine Calls.mono (HSt.out _ (by first | exact (Kp.refl _ _).drewN _ | exact ((Kp.refl _ _).drewN _).drewN _ | exact (((Kp.refl _ _).drewN _).drewN _).drewN _)) ?_
        rintro e w1 ⟨rfl, hT, hK⟩
        have HE := Lib.hid (And.intro hT (show Kp (fun j => j = b) w w1 from Kp.trans (by first | exact (Kp.refl _ _).drewN _ | exact ((Kp.refl _ _).drewN _).drewN _ | exact (((Kp.refl _ _).drewN _).drewN _).drewN _) hK (fun _ _ h => h)))
        clear hT hK
        go_wp2_with fail
        go_ret
        exact ⟨rfl, HE.out⟩

end Go.Proofs.YtmjcpapcmbgkjaaDoor

/-
  binary.lits.
-/
namespace Go.Proofs.YtmjcpapcmbgkjaaDoor
open Go.RowKit

/-- so many lines of one literal -/
def rdLits (s : ByteArray) (top : Int) : Nat → List Int → Nat × Nat → List Int × Nat × Nat
  | 0, L, st => (L, st)
  | k + 1, L, st => if (rdS s (fun c => c == 10) (rdD s top st).2).1 ≠ 10 then ([], (rdS s (fun c => c == 10) (rdD s top st).2).2) else rdLits s top k (L ++ [((rdD s top st).1 : Int)]) (rdS s (fun c => c == 10) (rdD s top st).2).2

theorem rdD_le {s : ByteArray} {top : Int} {st : Nat × Nat} (h : st.1 ≤ s.size) : (rdD s top st).2.1 ≤ s.size := by
  unfold rdD
  by_cases c1 : st.2 ≠ 0
  · rw [if_pos c1]; exact h
  rw [if_neg c1]
  by_cases c2 : (natN s st.1).2.2 ≠ 0
  · rw [if_pos c2]; exact h
  rw [if_neg c2]
  by_cases c3 : top < ((natN s st.1).1 : Int)
  · rw [if_pos c3]; exact h
  rw [if_neg c3]
  exact (natN_end h (by simpa using c2)).2.1
theorem rdS_le {s : ByteArray} {ok : Nat → Bool} {st : Nat × Nat} (h : st.1 ≤ s.size) : (rdS s ok st).2.1 ≤ s.size := by
  unfold rdS
  by_cases c1 : st.2 ≠ 0
  · rw [if_pos c1]; exact h
  rw [if_neg c1]
  by_cases c2 : st.1 = s.size
  · rw [if_pos c2]; exact h
  rw [if_neg c2]
  by_cases c3 : ok (bt s st.1) = false
  · rw [if_pos c3]; exact h
  rw [if_neg c3]
  show st.1 + 1 ≤ _
  omega

theorem idx10 : ∀ c, c < 256 → decide (Lib.indexByte (⟨#[10]⟩ : ByteArray).data.toList c.toUInt8 < 0) = !(c == 10) := by decide +kernel
theorem idx3210 : ∀ c, c < 256 → decide (Lib.indexByte (⟨#[32, 10]⟩ : ByteArray).data.toList c.toUInt8 < 0) = !(c == 32 || c == 10) := by decide +kernel

theorem wint_info : (Tryd.prog.info? 3).map (fun i => (i.zero, i.size, i.bytes)) = some (some (.int .i64 0), 1, 8) := by kernel_rfl
theorem met_digits (n : Nat) (x : Option Addr) (w : World) : (method (n + 1) 64 (.pointer x) "latchet/binary.digits").run Tryd.prog w = .ok (85, .pointer x) w := by kernel_rfl
theorem met_sign (n : Nat) (x : Option Addr) (w : World) : (method (n + 1) 64 (.pointer x) "latchet/binary.sign").run Tryd.prog w = .ok (86, .pointer x) w := by kernel_rfl
theorem met_delta (n : Nat) (x : Option Addr) (w : World) : (method (n + 1) 64 (.pointer x) "latchet/binary.delta").run Tryd.prog w = .ok (84, .pointer x) w := by kernel_rfl
theorem met_ended (n : Nat) (x : Option Addr) (w : World) : (method (n + 1) 64 (.pointer x) "latchet/binary.ended").run Tryd.prog w = .ok (24, .pointer x) w := by kernel_rfl

set_option maxRecDepth 100000 in
set_option maxHeartbeats 4000000 in
theorem bin_lits (s : ByteArray) (b : Nat) (st : Nat × Nat) (top : Int) (many : Nat) (w : World) (hs : s.size ≤ 1000000) (hp : st.1 ≤ s.size) (hm : many ≤ 20000000) (hB : TX w b s st) :
    Calls Tryd.prog 39 #[.iface 64 (.pointer (some ⟨b, 0, none⟩)), .int .i64 top, .int .i64 (many : Nat)] w fun e w' => ∃ v, e = .returned v ∧ Own w' w.heap.size 3 v (iv (rdLits s top many [] st).1) ∧ TX w' b s (rdLits s top many [] st).2 ∧ Kp (fun j => j = b) w w' := by
  have HB := Lib.hid hB
  have iv1 := met_digits
  have iv2 := met_sign
  clear hB
  go_enter Tryd.func39, Tryd.ntmps39
  go_wp2_with fail
  go_loopw [7, 8, 10] (fun v7 v8 v10 wr => ∃ (k : Nat) (L : List Int) (t : Nat × Nat), v10 = .int .i64 k ∧ k ≤ many ∧ L.length = k ∧ rdLits s top many [] st = rdLits s top (many - k) L t ∧ t.1 ≤ s.size ∧ Own wr w.heap.size 3 v7 (iv L) ∧ TX wr b s t ∧ Kp (fun j => j = b) w wr) (fun _ _ v10 _ => many - (intOf v10).toNat)
  case atStart => exact ⟨0, [], st, rfl, by omega, rfl, rfl, hp, Own.nil _ _ _, HB.out, Kp.refl _ _⟩
  case round =>
    obtain ⟨k, L, t, rfl, hk, hL, hE, ht, hO, hT, hK⟩ := hrel
    obtain ⟨wp, rfl⟩ : ∃ wp : World, wp = wr := ⟨_, rfl⟩
    have HO := Lib.hid hO
    have HK := Lib.hid hK
    have HE := Lib.hid hE
    have HL := Lib.hid hL
    by_cases hlt : k < many
    · obtain ⟨t1, t2⟩ := t
      obtain ⟨n, p2, e2, hd⟩ : ∃ n p2 e2, rdD s top (t1, t2) = (n, p2, e2) := ⟨_, _, _, rfl⟩
      have hp2 : p2 ≤ s.size := by have := rdD_le (s := s) (top := top) ht; rw [hd] at this; exact this
      obtain ⟨c, p3, e3, hg⟩ : ∃ c p3 e3, rdS s (fun c => c == 10) (p2, e2) = (c, p3, e3) := ⟨_, _, _, rfl⟩
      have hp3 : p3 ≤ s.size := by have := rdS_le (s := s) (ok := fun c => c == 10) (st := (p2, e2)) hp2; rw [hg] at this; exact this
      have HD := Lib.hid (bin_digits s b t1 t2 top wp hs ht hT)
      have HS := Lib.hid (fun u hu => bin_sign s ⟨#[10]⟩ (fun c => c == 10) b p2 e2 u hs hp2 idx10 hu)
      rw [hd] at HD
      rw [hg] at HS
      obtain ⟨j, hj⟩ : ∃ j, many - k = j + 1 := ⟨many - k - 1, by omega⟩
      have hstep : rdLits s top (j + 1) L (t1, t2) = if c ≠ 10 then ([], (p3, e3)) else rdLits s top j (L ++ [(n : Int)]) (p3, e3) := by
        show (if (rdS s (fun c => c == 10) (rdD s top (t1, t2)).2).1 ≠ 10 then _ else _) = _
        rw [hd]
        simp only
        rw [hg]
      rw [hj, hstep] at HE
      have HJ := Lib.hid (show many - (k + 1) = j by omega)
      clear hE hL ht hT hd hg hj hstep hO hK
      by_cases hc : c = 10
      · subst hc
        go_upto_region 7 with (first
          | (go_at_call 85; with_reducible refine Calls.mono HD.out ?_; rintro e w1 ⟨rfl, hT1, hK1⟩; have HS1 := Lib.hid (HS.out w1 hT1))
          | (go_at_call 86; with_reducible refine Calls.mono HS1.out ?_; rintro e w2 ⟨rfl, hT2, hK2⟩))
        rw [if_neg (by simp)] at HE
        have HK2 := Lib.hid (HK.out.trans (hK1.trans hK2 (fun _ _ h => h)) (fun _ _ h => h))
        have hO2 : Own w2 w.heap.size 3 u7 (iv L) := HO.out.kp (hK1.trans hK2 (fun _ _ h => h)) (fun j hj e => by have := (HO.out.lt j hj).1; have e2 : j = b := e; have := HB.out.lt; omega)
        have HOw := Lib.hid (hO2.alloc (.cells #[.int .i64 (n : Int)] 3))
        have HNew := Lib.hid (Blk.new w2 #[.int .i64 (n : Int)] 3)
        have HT2 := Lib.hid hT2
        have hws : w.heap.size ≤ w2.heap.size := HK2.out.size
        clear hT1 hK1 hK2 hT2 hO2 HS1
        go_wp2_with (at_builtin; refine wpList_append1_at rfl _ _ 22 3 rfl Tryd.underlying22 wint_info rfl HOw.out rfl ⟨w2.heap.size, 0, none⟩ (.int .i64 (n : Int)) rfl (HNew.out.cell rfl) rfl ?d1 ?d2 ?d3 ?_)
        case d1 => rw [iv_length, HL.out]; omega
        case d2 => rw [iv_length, HL.out]; unfold maxLen; omega
        case d3 => simp; omega
        intro v' w3 hO3 hg3 hat3
        have hkg : Kp (fun j => u7.ownBlock = some j) w2 w3 := ((Kp.refl _ _).alloc _).grown hg3 (fun j hj _ => hj)
        have hof := fun j (h : u7.ownBlock = some j) => (HO.out.lt j h).1
        have HF := Lib.hid (show Own w3 w.heap.size 3 v' (iv (L ++ [(n : Int)])) ∧ TX w3 b s (p3, e3) ∧ Kp (fun j => j = b) w w3 from ⟨by rw [iv_append]; exact hO3, HT2.out.kp hkg (fun e => by have := hof _ e; have := HB.out.lt; omega), HK2.out.trans hkg (fun j hj e => by have := hof _ e; omega)⟩)
        clear hO3 hg3 hat3 hkg hof HNew HOw
        go_wp2_with fail
        go_roundw
        case rel => exact ⟨k + 1, L ++ [(n : Int)], (p3, e3), by go_num, by omega, by rw [List.length_append, HL.out]; rfl, by rw [HJ.out]; exact HE.out, hp3, HF.out⟩
        case measure => simp [intOf]; omega
      · have hcq : ((c : Int) != 10) = true := by simp; omega
        rw [if_pos hc] at HE
        have HC := Lib.hid hc
        clear hc
        go_wp2_with (first
          | (go_at_call 85; with_reducible refine Calls.mono HD.out ?_; rintro e w1 ⟨rfl, hT1, hK1⟩; have HS1 := Lib.hid (HS.out w1 hT1))
          | (go_at_call 86; with_reducible refine Calls.mono HS1.out ?_; rintro e w2 ⟨rfl, hT2, hK2⟩))
        have HK2 := Lib.hid (HK.out.trans (hK1.trans hK2 (fun _ _ h => h)) (fun _ _ h => h))
        go_ret
        rw [HE.out]
        exact ⟨_, rfl, Own.nil _ _ _, hT2, HK2.out⟩
    · obtain rfl : k = many := by omega
      rw [Nat.sub_self] at HE
      have HF := Lib.hid (show Own wp w.heap.size 3 u7 (iv (rdLits s top k [] st).1) ∧ TX wp b s (rdLits s top k [] st).2 ∧ Kp (fun j => j = b) w wp from by rw [HE.out]; exact ⟨hO, hT, hK⟩)
      clear hE hL ht hT hO hK
      go_wp2_with fail
      go_ret
      exact ⟨_, rfl, HF.out⟩

end Go.Proofs.YtmjcpapcmbgkjaaDoor

/-
  binary.circuit: what it keeps on its way; its closure lit.
-/
namespace Go.Proofs.YtmjcpapcmbgkjaaDoor
open Go.RowKit

def zc9 : Array Value := #[.int .i64 0, .slice none 0 0, .slice none 0 0, .slice none 0 0, .slice none 0 0, .slice none 0 0, .slice none 0 0, .slice none 0 0, .string ⟨#[]⟩]

/-- all that circuit keeps -/
structure BC (w u : World) (b hb rb cb nb B : Nat) (s : ByteArray) (hd : Array Value) (st : Nat × Nat) (M n : Int) (vI vL vO vB vC vG : Value) (I : List Int) (L : List (Int × Int × Int)) (O D N : List Int) (G : List (Int × Int × Int)) : Prop where
  t : TX u b s st
  h : Blk u hb hd 38
  r : Blk u rb zc9 27
  c : Blk u cb #[.int .i64 M, vI, vL, vO, vB, vC, vG, .slice none 0 0, .string ⟨#[]⟩] 27
  x : Blk u nb #[.int .i64 n] 3
  oi : Own u B 3 vI (iv I)
  ol : OwnK u B 51 3 vL (L.map tri)
  oo : Own u B 3 vO (iv O)
  od : Own u B 3 vB (iv D)
  on : Own u B 3 vC (iv N)
  og : OwnK u B 43 3 vG (G.map tri)
  bl : b < w.heap.size
  lo : w.heap.size ≤ hb ∧ w.heap.size ≤ rb ∧ w.heap.size ≤ cb ∧ w.heap.size ≤ nb
  hi : hb < B ∧ rb < B ∧ cb < B ∧ nb < B ∧ B ≤ u.heap.size
  ne : cb ≠ rb ∧ cb ≠ hb ∧ cb ≠ nb ∧ nb ≠ rb ∧ nb ≠ hb
  kp : Kp (fun j => j = b) w u

section
variable {w u u' : World} {b hb rb cb nb B : Nat} {s : ByteArray} {hd : Array Value} {st : Nat × Nat} {M n : Int} {vI vL vO vB vC vG : Value} {I : List Int} {L : List (Int × Int × Int)} {O D N : List Int} {G : List (Int × Int × Int)}

theorem Own.low {w' : World} {base : Nat} {e : TypeId} {v : Value} {cs : List Value} {S : Nat → Prop} (h : Own u base e v cs) (k : Kp S u w') (hS : ∀ j, S j → j < base) : Own w' base e v cs :=
  h.kp k (fun j hj hs => by have := (h.lt j hj).1; have := hS j hs; omega)
theorem OwnK.low {w' : World} {base kk : Nat} {e : TypeId} {v : Value} {rs : List (List Value)} {S : Nat → Prop} (h : OwnK u base e kk v rs) (k : Kp S u w') (hS : ∀ j, S j → j < base) : OwnK w' base e kk v rs :=
  h.kp k (fun j hj hs => by have := (h.lt j hj).1; have := hS j hs; omega)

theorem BC.kp0 (h : BC w u b hb rb cb nb B s hd st M n vI vL vO vB vC vG I L O D N G) (k : Kp (fun _ => False) u u') : BC w u' b hb rb cb nb B s hd st M n vI vL vO vB vC vG I L O D N G :=
  ⟨h.t.kp k (fun h => h), h.h.kp k (fun h => h), h.r.kp k (fun h => h), h.c.kp k (fun h => h), h.x.kp k (fun h => h), h.oi.low k (fun _ h => h.elim), h.ol.low k (fun _ h => h.elim), h.oo.low k (fun _ h => h.elim), h.od.low k (fun _ h => h.elim), h.on.low k (fun _ h => h.elim), h.og.low k (fun _ h => h.elim), h.bl, h.lo, ⟨h.hi.1, h.hi.2.1, h.hi.2.2.1, h.hi.2.2.2.1, Nat.le_trans h.hi.2.2.2.2 k.size⟩, h.ne, h.kp.trans k (fun _ _ h => h.elim)⟩

theorem BC.rd {st' : Nat × Nat} (h : BC w u b hb rb cb nb B s hd st M n vI vL vO vB vC vG I L O D N G) (k : Kp (fun j => j = b) u u') (t : TX u' b s st') : BC w u' b hb rb cb nb B s hd st' M n vI vL vO vB vC vG I L O D N G := by
  have hbl := h.bl
  have hlo := h.lo
  have hhi := h.hi
  have hS : ∀ j, j = b → j < B := fun j e => by omega
  exact ⟨t, h.h.kp k (by omega), h.r.kp k (by omega), h.c.kp k (by omega), h.x.kp k (by omega), h.oi.low k hS, h.ol.low k hS, h.oo.low k hS, h.od.low k hS, h.on.low k hS, h.og.low k hS, h.bl, h.lo, ⟨h.hi.1, h.hi.2.1, h.hi.2.2.1, h.hi.2.2.2.1, Nat.le_trans h.hi.2.2.2.2 k.size⟩, h.ne, h.kp.trans k (fun _ _ h => h)⟩

theorem BC.nx {n' : Int} (h : BC w u b hb rb cb nb B s hd st M n vI vL vO vB vC vG I L O D N G) (k : Kp (fun j => j = nb) u u') (x : Blk u' nb #[.int .i64 n'] 3) : BC w u' b hb rb cb nb B s hd st M n' vI vL vO vB vC vG I L O D N G := by
  have hbl := h.bl
  have hlo := h.lo
  have hhi := h.hi
  have hne := h.ne
  have hS : ∀ j, j = nb → j < B := fun j e => by omega
  exact ⟨h.t.kp k (by omega), h.h.kp k (by omega), h.r.kp k (by omega), h.c.kp k (by omega), x, h.oi.low k hS, h.ol.low k hS, h.oo.low k hS, h.od.low k hS, h.on.low k hS, h.og.low k hS, h.bl, h.lo, ⟨h.hi.1, h.hi.2.1, h.hi.2.2.1, h.hi.2.2.2.1, Nat.le_trans h.hi.2.2.2.2 k.size⟩, h.ne, h.kp.trans k (fun j hj e => by omega)⟩

/-- cell i of the circuit is set; the rows of the others stay -/
theorem BC.put {vI' vL' vO' vB' vC' vG' : Value} {I' : List Int} {L' : List (Int × Int × Int)} {O' D' N' : List Int} {G' : List (Int × Int × Int)} (h : BC w u b hb rb cb nb B s hd st M n vI vL vO vB vC vG I L O D N G) {S : Nat → Prop} (k : Kp S u u') (hS : ∀ j, S j → B ≤ j) (i : Nat) (v : Value)
    (hc : (#[.int .i64 M, vI, vL, vO, vB, vC, vG, .slice none 0 0, .string ⟨#[]⟩] : Array Value).setIfInBounds i v = #[.int .i64 M, vI', vL', vO', vB', vC', vG', .slice none 0 0, .string ⟨#[]⟩])
    (oi : Own u' B 3 vI' (iv I')) (ol : OwnK u' B 51 3 vL' (L'.map tri)) (oo : Own u' B 3 vO' (iv O')) (od : Own u' B 3 vB' (iv D')) (on : Own u' B 3 vC' (iv N')) (og : OwnK u' B 43 3 vG' (G'.map tri)) :
    BC w (u'.setCell ⟨cb, i, none⟩ v) b hb rb cb nb B s hd st M n vI' vL' vO' vB' vC' vG' I' L' O' D' N' G' := by
  have hbl := h.bl
  have hlo := h.lo
  have hhi := h.hi
  have hne := h.ne
  have k2 := Kp.set u' ⟨cb, i, none⟩ v
  have hS2 : ∀ j, j = cb → j < B := fun j e => by omega
  have q : ∀ j, j < B → ¬ S j := fun j hj hs => by have := hS j hs; omega
  have c1 := (h.c.kp k (q _ (by omega))).set_same i v
  rw [hc] at c1
  exact ⟨(h.t.kp k (q _ (by omega))).kp k2 (by simp; omega), (h.h.kp k (q _ (by omega))).kp k2 (by simp; omega), (h.r.kp k (q _ (by omega))).kp k2 (by simp; omega), c1, (h.x.kp k (q _ (by omega))).kp k2 (by simp; omega),
    oi.low k2 hS2, ol.low k2 hS2, oo.low k2 hS2, od.low k2 hS2, on.low k2 hS2, og.low k2 hS2, h.bl, h.lo, ⟨hhi.1, hhi.2.1, hhi.2.2.1, hhi.2.2.2.1, by rw [show (u'.setCell ⟨cb, i, none⟩ v).heap.size = u'.heap.size from by simp [World.setCell]]; exact Nat.le_trans hhi.2.2.2.2 k.size⟩, h.ne,
    (h.kp.trans k (fun j hj hs => by have := hS j hs; have := h.kp.size; omega)).trans k2 (fun j hj e => by have e2 : j = cb := e; omega)⟩
theorem apart_il {e : TypeId} {k : Nat} {v1 v2 : Value} {cs : List Value} {rs : List (List Value)} (ha : Own u B 3 v1 cs) (hb : OwnK u B e k v2 rs) (he : e ≠ 3) : ∀ j, v1.ownBlock = some j → ¬ v2.ownBlock = some j := fun j h1 h2 => by
  obtain ⟨c, hc⟩ := ha.rows.blkN h1
  obtain ⟨c', hc'⟩ := hb.blkN h2
  exact he (blkN_type hc' hc)
theorem apart_kk {e e' : TypeId} {k k' : Nat} {v1 v2 : Value} {rs rs' : List (List Value)} (ha : OwnK u B e k v1 rs) (hb : OwnK u B e' k' v2 rs') (he : e ≠ e') : ∀ j, v1.ownBlock = some j → ¬ v2.ownBlock = some j := fun j h1 h2 => by
  obtain ⟨c, hc⟩ := ha.blkN h1
  obtain ⟨c', hc'⟩ := hb.blkN h2
  exact he (blkN_type hc hc')

theorem BC.putL {vL' : Value} {L' : List (Int × Int × Int)} (h : BC w u b hb rb cb nb B s hd st M n vI vL vO vB vC vG I L O D N G) (hg : u.grownBy u' vL.ownBlock) (hO : OwnK u' B 51 3 vL' (L'.map tri)) :
    BC w (u'.setCell ⟨cb, 2, none⟩ vL') b hb rb cb nb B s hd st M n vI vL' vO vB vC vG I L' O D N G := by
  have k : Kp (fun j => vL.ownBlock = some j) u u' := (Kp.refl _ u).grown hg (fun j hj _ => hj)
  exact h.put k (fun j hj => (h.ol.lt j hj).1) 2 vL' rfl (h.oi.kp k (apart_il h.oi h.ol (by decide))) hO (h.oo.kp k (apart_il h.oo h.ol (by decide))) (h.od.kp k (apart_il h.od h.ol (by decide))) (h.on.kp k (apart_il h.on h.ol (by decide))) (h.og.kp k (apart_kk h.og h.ol (by decide)))
theorem BC.putG {vG' : Value} {G' : List (Int × Int × Int)} (h : BC w u b hb rb cb nb B s hd st M n vI vL vO vB vC vG I L O D N G) (hg : u.grownBy u' vG.ownBlock) (hO : OwnK u' B 43 3 vG' (G'.map tri)) :
    BC w (u'.setCell ⟨cb, 6, none⟩ vG') b hb rb cb nb B s hd st M n vI vL vO vB vC vG' I L O D N G' := by
  have k : Kp (fun j => vG.ownBlock = some j) u u' := (Kp.refl _ u).grown hg (fun j hj _ => hj)
  exact h.put k (fun j hj => (h.og.lt j hj).1) 6 vG' rfl (h.oi.kp k (apart_il h.oi h.og (by decide))) (h.ol.kp k (apart_kk h.ol h.og (by decide))) (h.oo.kp k (apart_il h.oo h.og (by decide))) (h.od.kp k (apart_il h.od h.og (by decide))) (h.on.kp k (apart_il h.on h.og (by decide))) hO

/-- a block that came behind all is turned -/
theorem BC.fresh {u0 : World} {st0 : Nat × Nat} {n0 : Int} {xb : Nat} (h0 : BC w u0 b hb rb cb nb B s hd st0 M n0 vI vL vO vB vC vG I L O D N G) (hx : u0.heap.size ≤ xb) (h : BC w u b hb rb cb nb B s hd st M n vI vL vO vB vC vG I L O D N G) (k : Kp (fun j => j = xb) u u') : BC w u' b hb rb cb nb B s hd st M n vI vL vO vB vC vG I L O D N G := by
  have hbl := h.bl
  have hlo := h.lo
  have hhi := h0.hi
  have hws := h0.kp.size
  exact ⟨h.t.kp k (by omega), h.h.kp k (by omega), h.r.kp k (by omega), h.c.kp k (by omega), h.x.kp k (by omega),
    h.oi.kp k (fun j hj e => by have := (h0.oi.lt j hj).2; omega), h.ol.kp k (fun j hj e => by have := (h0.ol.lt j hj).2; omega), h.oo.kp k (fun j hj e => by have := (h0.oo.lt j hj).2; omega), h.od.kp k (fun j hj e => by have := (h0.od.lt j hj).2; omega), h.on.kp k (fun j hj e => by have := (h0.on.lt j hj).2; omega), h.og.kp k (fun j hj e => by have := (h0.og.lt j hj).2; omega),
    h.bl, h.lo, ⟨h.hi.1, h.hi.2.1, h.hi.2.2.1, h.hi.2.2.2.1, Nat.le_trans h.hi.2.2.2.2 k.size⟩, h.ne, h.kp.trans k (fun j hj e => by omega)⟩
end

set_option maxRecDepth 100000 in
set_option maxHeartbeats 1000000 in
theorem bin_lit (nb : Nat) (n : Int) (w : World) (h0 : 0 ≤ n) (h1 : n ≤ 1000000000) (hB : Blk w nb #[.int .i64 n] 3) :
    Calls Tryd.prog 38 #[.pointer (some ⟨nb, 0, none⟩)] w fun e w' => e = .returned (.int .i64 (n + 2)) ∧ Blk w' nb #[.int .i64 (n + 2)] 3 ∧ Kp (fun j => j = nb) w w' := by
  have b0 := hB.cell (i := 0) (v := .int .i64 n) rfl
  have f0 := Blk.free hB 0
  have HB := Lib.hid hB
  clear hB
  go_enter Tryd.func38, Tryd.ntmps38
  go_wp2_with fail
  go_ret
  exact ⟨rfl, Blk.set_same HB.out 0 _, (Kp.refl (fun j => j = nb) w).setCell (p := ⟨nb, 0, none⟩) (fun _ => rfl) _⟩

end Go.Proofs.YtmjcpapcmbgkjaaDoor

/-
  The law of loose regions, with guards.
-/
namespace Go.Proofs.YtmjcpapcmbgkjaaDoor
open Go Go.RowKit

/-- how the operations hang together: those of p come first -/
structure LooseGOK (ops : Array Oper) (p : Nat → Bool) (N : Nat) : Prop where
  low : ∀ (i : Nat) (o : Oper), ops[i]? = some o → p i = true → ∀ e ∈ o.after, Region.binds .any e = true → e.on < i ∧ p e.on = true
  dst : ∀ (i : Nat) (o : Oper), ops[i]? = some o → p i = true → ∃ d, o.dst = some d ∧ d < N
  inj : ∀ (i j : Nat) (o o' : Oper), ops[i]? = some o → ops[j]? = some o' → p i = true → p j = true → o.dst = o'.dst → i = j
  bar : ∀ (i : Nat) (o : Oper), ops[i]? = some o → p i = false → ∀ j, j < ops.size → p j = true → j ∈ clo ops 6 (edgesOf ops i)

def looseGB (ops : Array Oper) (p : Nat → Bool) (N : Nat) : Bool :=
  (List.range ops.size).all fun i => match ops[i]? with
    | none => true
    | some o => (if p i then
        o.after.all (fun e => !Region.binds .any e || (decide (e.on < i) && p e.on)) &&
          (match o.dst with
            | none => false
            | some d => decide (d < N) && (List.range ops.size).all (fun j => !p j || decide (j = i) || (match ops[j]? with | none => true | some o' => decide (o'.dst ≠ some d))))
      else (List.range ops.size).all (fun j => !p j || (clo ops 6 (edgesOf ops i)).contains j))

theorem looseGB_spec {ops : Array Oper} {p : Nat → Bool} {N : Nat} (h : looseGB ops p N = true) : LooseGOK ops p N := by
  unfold looseGB at h
  rw [List.all_eq_true] at h
  have get : ∀ (i : Nat) (o : Oper), ops[i]? = some o → (if p i then
        o.after.all (fun e => !Region.binds .any e || (decide (e.on < i) && p e.on)) &&
          (match o.dst with
            | none => false
            | some d => decide (d < N) && (List.range ops.size).all (fun j => !p j || decide (j = i) || (match ops[j]? with | none => true | some o' => decide (o'.dst ≠ some d))))
      else (List.range ops.size).all (fun j => !p j || (clo ops 6 (edgesOf ops i)).contains j)) = true := fun i o ho => by
    have hi : i < ops.size := (Array.getElem?_eq_some_iff.1 ho).1
    have := h i (List.mem_range.2 hi)
    simp only [ho] at this
    exact this
  refine ⟨fun i o ho hp e he hb => ?_, fun i o ho hp => ?_, fun i j o o' ho ho' hp hp' hd => ?_, fun i o ho hp j hj hpj => ?_⟩
  · have := (get i o ho)
    rw [if_pos hp, Bool.and_eq_true] at this
    have h1 := this.1
    rw [Array.all_eq_true_iff_forall_mem] at h1
    have h2 := h1 e he
    rw [hb] at h2
    simpa using h2
  · have := (get i o ho)
    rw [if_pos hp, Bool.and_eq_true] at this
    have h1 := this.2
    cases hd : o.dst with
    | none => rw [hd] at h1; cases h1
    | some d =>
      rw [hd] at h1
      simp only [Bool.and_eq_true, decide_eq_true_eq] at h1
      exact ⟨d, rfl, h1.1⟩
  · have := (get i o ho)
    rw [if_pos hp, Bool.and_eq_true] at this
    have h1 := this.2
    cases hdd : o.dst with
    | none => rw [hdd] at h1; cases h1
    | some d =>
      rw [hdd] at h1
      simp only [Bool.and_eq_true] at h1
      have h2 := h1.2
      rw [List.all_eq_true] at h2
      have h3 := h2 j (List.mem_range.2 (Array.getElem?_eq_some_iff.1 ho').1)
      rw [hp', ho'] at h3
      simp only [Bool.not_true, Bool.false_or, Bool.or_eq_true, decide_eq_true_eq] at h3
      rcases h3 with h3 | h3
      · exact h3.symm
      · exact absurd (hd.symm.trans hdd) h3
  · have := (get i o ho)
    rw [if_neg (by simp [hp]), List.all_eq_true] at this
    have h1 := this j (List.mem_range.2 hj)
    rw [hpj, Bool.not_true, Bool.false_or] at h1
    simpa using h1

/-- an operation that is done, or is passed by -/
def LG (P : Program) (ops : Array Oper) (Q : Exit → Act → World → Prop) (V : Nat → World → Value → Prop) (i : Nat) (o : Oper) (a : Act) (u : World) : Prop :=
  (Region.wanted o (yielded ops a.tmps) = true ∧ o.wp P a u (fun a' u' => ∃ v, a' = a.put o.dst v ∧ Kp (fun _ => False) u u' ∧ V i u' v) Q) ∨ (Region.wanted o (yielded ops a.tmps) = false ∧ V i u undef)

theorem lg_none {P : Program} {ops : Array Oper} {Q : Exit → Act → World → Prop} {V : Nat → World → Value → Prop} {i : Nat} {o : Oper} {a : Act} {u : World} (hg : o.guard = none) (h : o.wp P a u (fun a' u' => ∃ v, a' = a.put o.dst v ∧ Kp (fun _ => False) u u' ∧ V i u' v) Q) : LG P ops Q V i o a u :=
  .inl ⟨by unfold Region.wanted; rw [hg], h⟩

theorem yielded_at {ops : Array Oper} {g x : Nat} {b : Bool} {a : Act} (hd : (ops[g]?).bind (·.dst) = some x) (h : a.tmps[x]?.getD undef = .bool b) : yielded ops a.tmps g = some b := by
  unfold yielded
  rw [hd]
  simp only [Option.bind_some]
  cases hx : a.tmps[x]? with
  | none => rw [hx] at h; cases h
  | some v => rw [hx] at h; simp only [Option.getD_some] at h; subst h; rfl

theorem lg_on {P : Program} {ops : Array Oper} {Q : Exit → Act → World → Prop} {V : Nat → World → Value → Prop} {i : Nat} {o : Oper} {a : Act} {u : World} {g x : Nat} {b : Bool} (hg : o.guard = some (g, b)) (hd : (ops[g]?).bind (·.dst) = some x) (hx : a.tmps[x]?.getD undef = .bool b)
    (h : o.wp P a u (fun a' u' => ∃ v, a' = a.put o.dst v ∧ Kp (fun _ => False) u u' ∧ V i u' v) Q) : LG P ops Q V i o a u :=
  .inl ⟨by unfold Region.wanted; rw [hg]; simp only [yielded_at hd hx]; exact beq_self_eq_true _, h⟩

theorem lg_off {P : Program} {ops : Array Oper} {Q : Exit → Act → World → Prop} {V : Nat → World → Value → Prop} {i : Nat} {o : Oper} {a : Act} {u : World} {g x : Nat} {b c : Bool} (hg : o.guard = some (g, b)) (hd : (ops[g]?).bind (·.dst) = some x) (hx : a.tmps[x]?.getD undef = .bool c) (hbc : (c == b) = false) (h : V i u undef) : LG P ops Q V i o a u :=
  .inr ⟨by unfold Region.wanted; rw [hg]; simp only [yielded_at hd hx]; cases b <;> cases c <;> first | rfl | (simp at hbc), h⟩

theorem wpAny_looseG {P : Program} {ops : Array Oper} {Q : Exit → Act → World → Prop} {p : Nat → Bool} {V : Nat → World → Value → Prop} {w0 : World} {a0 : Act} {LP : Array Bool} (L : LooseGOK ops p a0.tmps.size)
    (stable : ∀ i u u' v, Kp (fun _ => False) u u' → V i u v → V i u' v)
    (hstep : ∀ (i : Nat) (o : Oper), ops[i]? = some o → p i = true → ∀ a u, Kp (fun _ => False) w0 u →
      (∀ s, (∀ (j : Nat) (oj : Oper), ops[j]? = some oj → p j = true → oj.dst ≠ some s) → a.tmps.getD s undef = a0.tmps.getD s undef) →
      (∀ e ∈ o.after, Region.binds .any e = true → ∀ (oj : Oper) (d : Nat), ops[e.on]? = some oj → oj.dst = some d → V e.on u (a.tmps.getD d undef)) →
      LG P ops Q V i o a u)
    (hLs : LP.size = ops.size) (hLP : ∀ i, i < ops.size → LP.getD i false = p i)
    (hend : ∀ a u, LInv ops V w0 a0 (fun i => p i = true) a u → wpAny P .any ops Q (cntU ops.size LP) LP a u) :
    ∀ (fuel : Nat) (listed : Array Bool) (a : Act) (u : World), listed.size = ops.size → fuel = cntU ops.size listed → (∀ i, i < ops.size → listed.getD i false = true → p i = true) → (∀ j, listed.getD j false = true → ∀ k, k ∈ edgesOf ops j → listed.getD k false = true) →
      LInv ops V w0 a0 (fun i => listed.getD i false = true) a u → wpAny P .any ops Q fuel listed a u := by
  intro fuel
  induction fuel with
  | zero =>
    intro listed a u hs hf hl hcl hI
    have hall : ∀ i, i < ops.size → listed.getD i false = true := fun i hi => by
      by_cases h : listed.getD i false = true
      · exact h
      · have := cntU_set (listed := listed) (by omega) (by simpa using h) ops.size hi
        omega
    have e : listed = LP := listed_ext (by omega) (fun i hi => by
      rw [hall i (by omega), hLP i (by omega)]
      exact (hl i (by omega) (hall i (by omega))).symm)
    subst e
    have := hend a u ⟨hI.kp, fun i o d ho _ hd => hI.val i o d ho (hall i (Array.getElem?_eq_some_iff.1 ho).1) hd, fun s hs' => hI.off s (fun i o ho hi => hs' i o ho (hl i (Array.getElem?_eq_some_iff.1 ho).1 hi)), hI.size, hI.defers⟩
    rwa [← hf] at this
  | succ fuel ih =>
    intro listed a u hs hf hl hcl hI
    by_cases hall : ∀ i, i < ops.size → p i = true → listed.getD i false = true
    · have e : listed = LP := listed_ext (by omega) (fun i hi => by
        rw [hLP i (by omega)]
        by_cases h : p i = true
        · rw [h, hall i (by omega) h]
        · by_cases h2 : listed.getD i false = true
          · exact absurd (hl i (by omega) h2) h
          · have h3 : p i = false := by simpa using h
            have h4 : listed.getD i false = false := by simpa using h2
            rw [h3, h4])
      subst e
      have := hend a u ⟨hI.kp, fun i o d ho hp hd => hI.val i o d ho (hall i (Array.getElem?_eq_some_iff.1 ho).1 hp) hd, fun s hs' => hI.off s (fun i o ho hi => hs' i o ho (hl i (Array.getElem?_eq_some_iff.1 ho).1 hi)), hI.size, hI.defers⟩
      rwa [← hf] at this
    · obtain ⟨i0, ⟨hi0, hp0, hu0⟩, hmin⟩ := least_of (R := fun i => i < ops.size ∧ p i = true ∧ listed.getD i false = false) (by
        refine Classical.byContradiction fun hno => hall fun i hi hp => ?_
        by_cases h : listed.getD i false = true
        · exact h
        · exact absurd ⟨i, hi, hp, by simpa using h⟩ hno)
      have hready : i0 ∈ Region.ready .any ops listed := by
        rw [mem_ready]
        refine ⟨by rw [getD_true_false (by omega)]; exact hu0, ops[i0], Array.getElem?_eq_getElem hi0, fun e he hb => ?_⟩
        obtain ⟨h1, h2⟩ := L.low i0 _ (Array.getElem?_eq_getElem hi0) hp0 e he hb
        by_cases h : listed.getD e.on false = true
        · exact h
        · exact absurd ⟨by omega, h2, by simpa using h⟩ (hmin e.on h1)
      refine ⟨fun h => (by rw [h] at hready; cases hready), fun i hi => ?_⟩
      obtain ⟨h1, o, ho, hedge⟩ := mem_ready.1 hi
      have hisz : i < ops.size := (Array.getElem?_eq_some_iff.1 ho).1
      rw [getD_true_false (by omega)] at h1
      have hpi : p i = true := by
        by_cases h : p i = true
        · exact h
        · have h3 := clo_listed (listed := fun j => listed.getD j false = true) hcl 6 (edgesOf ops i) (fun k hk => by
            obtain ⟨e, he, hb, hon⟩ := (mem_edgesOf ho).1 hk
            have := hedge e he hb
            rwa [hon] at this) i0 (L.bar i o ho (by simpa using h) i0 hi0 hp0)
          rw [hu0] at h3
          cases h3
      obtain ⟨d, hd, hdN⟩ := L.dst i o ho hpi
      have hgo : ∀ a' u', (∃ v, a' = a.put o.dst v ∧ Kp (fun _ => False) u u' ∧ V i u' v) → wpAny P .any ops Q fuel (listed.setIfInBounds i true) a' u' := by
        rintro a' u' ⟨v, rfl, hK, hV⟩
        have hset : ∀ j, (listed.setIfInBounds i true).getD j false = true ↔ j = i ∨ listed.getD j false = true := fun j => by
          simp only [Array.getD_eq_getD_getElem?, Array.getElem?_setIfInBounds]
          by_cases e : i = j
          · subst e; simp [show i < listed.size by omega]
          · rw [if_neg e]
            exact ⟨.inr, fun h => h.resolve_left (fun h => e h.symm)⟩
        refine ih _ _ _ (by simp [hs]) ?_ (fun j hj hlj => ?_) (fun j hj k hk => ?_) ⟨hI.kp.trans hK (fun _ _ h => h), fun j oj dj hoj hj hdj => ?_, fun s hs' => ?_, by rw [put_size]; exact hI.size, by rw [put_defers]; exact hI.defers⟩
        · have := cntU_set (listed := listed) (by omega) h1 ops.size hisz
          omega
        · rcases (hset j).1 hlj with e | e
          · rw [e]; exact hpi
          · exact hl j hj e
        · rcases (hset j).1 hj with e | e
          · subst e
            obtain ⟨e, he, hb, hon⟩ := (mem_edgesOf ho).1 hk
            refine (hset k).2 (.inr ?_)
            rw [← hon]
            exact hedge e he hb
          · exact (hset k).2 (.inr (hcl j e k hk))
        · rcases (hset j).1 hj with e | e
          · subst e
            have : oj = o := by rw [hoj] at ho; exact Option.some.inj ho
            subst this
            rw [hdj] at hd
            have : dj = d := Option.some.inj hd
            subst this
            rw [hdj, put_getD_same (by rw [hI.size]; exact hdN)]
            exact hV
          · by_cases eji : j = i
            · subst eji
              rw [h1] at e; cases e
            · rw [put_getD_ne (fun h => eji (L.inj j i oj o hoj ho (hl j (Array.getElem?_eq_some_iff.1 hoj).1 e) hpi (by rw [hdj, h])))]
              exact stable j u u' _ hK (hI.val j oj dj hoj e hdj)
        · rw [put_getD_ne (hs' i o ho ((hset i).2 (.inl rfl)))]
          exact hI.off s (fun j oj hoj hj => hs' j oj hoj ((hset j).2 (.inr hj)))
      have hst := hstep i o ho hpi a u hI.kp (fun s hs' => hI.off s (fun j oj hoj hj => hs' j oj hoj (hl j (Array.getElem?_eq_some_iff.1 hoj).1 hj))) (fun e he hb oj d' hoj hd' => hI.val e.on oj d' hoj (hedge e he hb) hd')
      unfold wpOp
      rw [ho]
      simp only
      rcases hst with ⟨hw, hst⟩ | ⟨hw, hst⟩
      · rw [if_pos hw]
        exact .inl (Oper.wp_mono hgo hst)
      · rw [if_neg (by rw [hw]; exact Bool.false_ne_true)]
        exact hgo _ _ ⟨undef, rfl, Kp.refl _ _, hst⟩

/-- the region, whose last ones (not of p) stay to be walked -/
theorem wp_region_looseG {P : Program} {id : Nat} {ops : Array Oper} {Q : Exit → Act → World → Prop} {p : Nat → Bool} {V : Nat → World → Value → Prop} {w : World} {a0 : Act} {LP : Array Bool} {K : Nat} (hm : P.follows .mixedOrders = true) (hB : looseGB ops p a0.tmps.size = true)
    (stable : ∀ i u u' v, Kp (fun _ => False) u u' → V i u v → V i u' v)
    (hstep : ∀ (i : Nat) (o : Oper), ops[i]? = some o → p i = true → ∀ a u, Kp (fun _ => False) w u →
      (∀ s, (∀ (j : Nat) (oj : Oper), ops[j]? = some oj → p j = true → oj.dst ≠ some s) → a.tmps.getD s undef = a0.tmps.getD s undef) →
      (∀ e ∈ o.after, Region.binds .any e = true → ∀ (oj : Oper) (d : Nat), ops[e.on]? = some oj → oj.dst = some d → V e.on u (a.tmps.getD d undef)) →
      LG P ops Q V i o a u)
    (hLs : LP.size = ops.size) (hLP : ∀ i, i < ops.size → LP.getD i false = p i) (hK : cntU ops.size LP = K)
    (hend : ∀ a u, LInv ops V w a0 (fun i => p i = true) a u → wpAny P .any ops Q K LP a u) : (Code.region id ops true).wp P Q a0 w := by
  refine wp_region_any hm ?_
  refine wpAny_looseG (looseGB_spec hB) stable hstep hLs hLP (fun a u h => by rw [hK]; exact hend a u h) ops.size _ a0 _ (by simp) ?_ (fun i hi h => ?_) (fun i h => ?_) ⟨(Kp.refl (fun _ => False) w).drew, fun i o d ho h => ?_, fun _ _ => rfl, rfl, rfl⟩
  · have : ∀ n, cntU n (Array.replicate ops.size false) = n := fun n => by
      induction n with
      | zero => rfl
      | succ n ih => rw [cntU_succ, ih]; simp [unl, Array.getD_eq_getD_getElem?, Array.getElem?_replicate]; split <;> simp
    rw [this]
  · simp [Array.getD_eq_getD_getElem?, Array.getElem?_replicate] at h
    split at h <;> simp at h
  · simp [Array.getD_eq_getD_getElem?, Array.getElem?_replicate] at h
    split at h <;> simp at h
  · simp [Array.getD_eq_getD_getElem?, Array.getElem?_replicate] at h
    split at h <;> simp at h

end Go.Proofs.YtmjcpapcmbgkjaaDoor
