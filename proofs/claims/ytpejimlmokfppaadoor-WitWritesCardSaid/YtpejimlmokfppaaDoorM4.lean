/-
  How a witness that came in is opened.
-/
import Derived.Test.YtpejimlmokfppaaDoorRows
import Derived.Test.YtpejimlmokfppaaDoorM2
import Derived.ProofKit
import Derived.OpenShut
import Derived.Deep.Grids
import Derived.Lib.SmallJoins
import Derived.Test.YtpejimlmokfppaaDoorM3
import Derived.Deep.QuietTactic
import Derived.BigQuiet
import Derived.Test.YtpejimlmokfppaaDoorM1
import Derived.Lib.LaidTab
import Derived.Stop.LaidErr
import Derived.Shelf.Vars
import GoSem.PinnedTables
namespace Go.Proofs.YtpejimlmokfppaaDoor
open Go.RowKit Go.ChangeShapes Go.WideShapes Go.ChangeAt Go.Joins Go.Deep

theorem spot_none {W : World} {a : Addr} {u : Value} (h : W.cell? a = some u) : ∃ b off, a = ⟨b, off, none⟩ := by
  have hs : a.spot = none := World.cell?_spot h
  obtain ⟨b, off, spot⟩ := a
  simp only at hs
  subst hs
  exact ⟨b, off, rfl⟩

theorem rowAt_fn {W : World} {a : Addr} {n m : Nat} {B : Nat → Bool} (hn : n ≤ m) (hc : ∀ c, c < m → W.cell? (a.add c) = some (.bool (B c))) : RowAt W (some a) (((List.range n).map B).map Value.bool) := by
  intro j u hu
  rw [List.getElem?_map, List.getElem?_map] at hu
  have hj : j < n := by
    rcases Nat.lt_or_ge j n with h | h
    · exact h
    · rw [List.getElem?_eq_none (by simpa using h)] at hu; cases hu
  rw [List.getElem?_range hj] at hu
  simp only [Option.map_some, Option.some.injEq] at hu
  have h0 := hc 0 (by omega)
  obtain ⟨b, off, e⟩ := spot_none h0
  have e' : a = ⟨b, off, none⟩ := by simpa [Addr.add] using e
  subst e'
  refine ⟨b, off, rfl, ?_⟩
  have hj' := hc j (by omega)
  rw [add_plain'] at hj'
  rw [hj', hu]

set_option maxRecDepth 100000 in
theorem bools_in {H : Type} {enc : TypeId × Value → H} {W : World} {fuel : Nat} {v : Value} {x : DataW H × List MemPlace}
    (h : DataW.trod enc Tryd.prog W 0 (fun _ => true) true fuel 22 [v] = some x) : ∃ l : List Bool, BoolsSl W v l := by
  rcases open_bools Tryd.underlying22 Tryd.underlying4 (by kernel_rfl) h with ⟨hcs, _⟩ | ⟨a, len, cap, B, hcs, _, hl, hm, _, hcell⟩
  · simp at hcs
    subst hcs
    exact ⟨[], none, 0, rfl, Nat.le_refl _, by simp [maxLen], fun _ => rfl, RowAt.nil _ _⟩
  · simp at hcs
    subst hcs
    exact ⟨(List.range len).map B, some a, cap, by simp, by simpa using hl, hm, (fun h => by cases h), rowAt_fn hl hcell⟩

set_option maxRecDepth 100000 in
theorem grid_in {H : Type} {enc : TypeId × Value → H} {W : World} {fuel : Nat} {v : Value} {x : DataW H × List MemPlace}
    (h : DataW.trod enc Tryd.prog W 0 (fun _ => true) true fuel 23 [v] = some x) : ∃ L : List (List Bool), GridSl W v L := by
  rcases open_bool_rows Tryd.underlying23 Tryd.underlying22 Tryd.underlying4 (by kernel_rfl) (by kernel_rfl) h with ⟨hcs, _⟩ | ⟨a, len, cap, A, L, C, B, hcs, _, hl, hm, _, hx⟩
  · simp at hcs
    subst hcs
    exact ⟨[], none, 0, rfl, Nat.le_refl _, by simp [maxLen], fun _ => rfl, [], RowAt.nil _ _, rfl, fun k r x hr => by simp at hr⟩
  · simp at hcs
    subst hcs
    refine ⟨(List.range len).map (fun r => (List.range (L r)).map (B r)), some a, cap, by simp, by simpa using hl, hm, (fun h => by cases h), (List.range len).map (fun r => .slice (A r) (L r) (C r)), ?_, by simp, ?_⟩
    · intro j u hu
      rw [List.getElem?_map] at hu
      have hj : j < len := by
        rcases Nat.lt_or_ge j len with h | h
        · exact h
        · rw [List.getElem?_eq_none (by simpa using h)] at hu; cases hu
      rw [List.getElem?_range hj] at hu
      simp only [Option.map_some, Option.some.injEq] at hu
      have h0 := (hx 0 (by omega)).1
      obtain ⟨b, off, e⟩ := spot_none h0
      have e' : a = ⟨b, off, none⟩ := by simpa [Addr.add] using e
      subst e'
      refine ⟨b, off, rfl, ?_⟩
      have hj' := (hx j (by omega)).1
      rw [add_plain'] at hj'
      rw [hj', hu]
    · intro k r x hr hx2
      rw [List.getElem?_map] at hr hx2
      have hk : k < len := by
        rcases Nat.lt_or_ge k len with h | h
        · exact h
        · rw [List.getElem?_eq_none (by simpa using h)] at hr; cases hr
      rw [List.getElem?_range hk] at hr hx2
      simp only [Option.map_some, Option.some.injEq] at hr hx2
      subst hr hx2
      obtain ⟨_, q1, q2, q3, q4⟩ := hx k (by omega)
      refine ⟨A k, C k, by simp, by simpa using q1, q2, q3, ?_⟩
      cases hA : A k with
      | none =>
        have : L k = 0 := by have := q3 hA; omega
        rw [this]
        exact RowAt.nil _ _
      | some a' => exact rowAt_fn q1 (q4 a' hA).2

/-- a witness that came in -/
def WitArg (W : World) (v : Value) : Prop := ∃ (kind prop : Int) (v2 v3 : Value) (start : List Bool) (ins : List (List Bool)), v = .agg #[.int .i64 kind, .int .i64 prop, v2, v3] ∧ prop ≤ 9223372036854775807 ∧ BoolsSl W v2 start ∧ GridSl W v3 ins

theorem wit_cells : Tryd.prog.cellsOf 27 = 4 := by kernel_rfl
theorem run_cells : Tryd.prog.cellsOf 25 = 2 := by kernel_rfl
theorem int_cells : Tryd.prog.cellsOf 3 = 1 := by kernel_rfl
theorem bools_cells : Tryd.prog.cellsOf 22 = 1 := by kernel_rfl
theorem grid_cells : Tryd.prog.cellsOf 23 = 1 := by kernel_rfl

set_option maxRecDepth 100000 in
theorem open_witArg {H : Type} {enc : TypeId × Value → H} {W : World} {base : Nat} {v : Value} {d : DataW H} {ps : List MemPlace}
    (hv : Value.okWide Tryd.prog W .any base 27 v) (h : DataW.Trod enc Tryd.prog W 0 (fun _ => true) true 27 v d ps) : WitArg W v := by
  obtain ⟨cs, rfl, hsz⟩ := okWide_struct Tryd.underlying27 hv
  obtain ⟨l⟩ := cs
  match l, hsz.trans wit_cells with
  | [c0, c1, c2, c3], _ =>
    obtain ⟨fuel, hf⟩ := h
    obtain ⟨xs, n, _, _, _, hlen, hg⟩ := DataW.trod_struct Tryd.underlying27 hf
    have g0 : DataW.trod enc Tryd.prog W 0 (fun _ => true) true n 3 [c0] = xs[0]? := by simpa [Value.cells, int_cells, run_cells] using hg 0 _ rfl
    have g1 : DataW.trod enc Tryd.prog W 0 (fun _ => true) true n 3 [c1] = xs[1]? := by simpa [Value.cells, int_cells, run_cells] using hg 1 _ rfl
    have g2 : DataW.trod enc Tryd.prog W 0 (fun _ => true) true n 25 [c2, c3] = xs[2]? := by simpa [Value.cells, int_cells, run_cells] using hg 2 _ rfl
    match xs, hlen with
    | [y0, y1, y2], _ =>
      obtain ⟨x0, e0, _, _⟩ := DataW.trod_int Tryd.underlying3 g0
      obtain ⟨x1, e1, _, w1⟩ := DataW.trod_int Tryd.underlying3 g1
      obtain ⟨ys, m, _, _, _, hlen2, hg2⟩ := DataW.trod_struct Tryd.underlying25 g2
      have g3 : DataW.trod enc Tryd.prog W 0 (fun _ => true) true m 22 [c2] = ys[0]? := by simpa [bools_cells, grid_cells] using hg2 0 _ rfl
      have g4 : DataW.trod enc Tryd.prog W 0 (fun _ => true) true m 23 [c3] = ys[1]? := by simpa [bools_cells, grid_cells] using hg2 1 _ rfl
      match ys, hlen2 with
      | [z0, z1], _ =>
        obtain ⟨start, hs⟩ := bools_in g3
        obtain ⟨ins, hi⟩ := grid_in g4
        simp only [List.cons.injEq, and_true] at e0 e1
        subst e0 e1
        exact ⟨x0, x1, c2, c3, start, ins, rfl, (bounds_i64 w1).2, hs, hi⟩

end Go.Proofs.YtpejimlmokfppaaDoor

/-
  latchetlaw18.WitWrites: its walk.
-/
namespace Go.Proofs.YtpejimlmokfppaaDoor
open Go.RowKit

/-- the lengths of the first inputs -/
def firstN (ins : List (List Bool)) : Nat := if ins = [] then 0 else (gb ins 0).length
/-- whether a witness is right -/
def right0 (kind prop : Int) : Bool := decide (0 ≤ kind ∧ kind ≤ 2 ∧ 0 ≤ prop ∧ prop < 1000000000)
def right1 (kind prop : Int) (start : List Bool) (ins : List (List Bool)) : Bool := right0 kind prop && (if kind = 1 then decide (0 < ins.length) else decide (start.length = 0 ∧ ins.length = 0))
def rightK (kind prop : Int) (start : List Bool) (ins : List (List Bool)) (k : Nat) : Bool := right1 kind prop start ins && decide (∀ j, j < k → (gb ins j).length = (gb ins 0).length)

theorem rightK_succ (kind prop : Int) (start : List Bool) (ins : List (List Bool)) (k : Nat) : rightK kind prop start ins (k + 1) = (rightK kind prop start ins k && decide ((gb ins k).length = (gb ins 0).length)) := by
  unfold rightK
  rw [Bool.and_assoc]
  congr 1
  rw [Bool.eq_iff_iff, Bool.and_eq_true, decide_eq_true_iff, decide_eq_true_iff, decide_eq_true_iff]
  constructor
  · intro h; exact ⟨fun j hj => h j (by omega), h k (by omega)⟩
  · rintro ⟨h1, h2⟩ j hj
    by_cases e : j = k
    · subst e; exact h2
    · exact h1 j (by omega)

theorem right_back {s : ByteArray} {kind prop : Int} {start : List Bool} {ins : List (List Bool)} (hs : s.data.toList = witText kind prop start ins) (h : rightK kind prop start ins ins.length = true) (hz : ins.length ≤ s.size) :
    ∃ d : WitD, witT s (start.length : Nat) (firstN ins : Nat) = .ok d ∧ kind = d.kind ∧ prop = d.prop ∧ start = d.start ∧ ins = d.ins := by
  unfold rightK right1 right0 at h
  rw [Bool.and_eq_true, Bool.and_eq_true, decide_eq_true_iff, decide_eq_true_iff] at h
  obtain ⟨⟨⟨a1, a2, a3, a4⟩, a5⟩, a6⟩ := h
  obtain ⟨k, rfl⟩ : ∃ k : Nat, kind = k := ⟨kind.toNat, by omega⟩
  obtain ⟨p, rfl⟩ : ∃ p : Nat, prop = p := ⟨prop.toNat, by omega⟩
  refine ⟨⟨k, p, start, ins⟩, text_witT hs (by omega) (by omega) (fun hk => ?_) (fun hk => ?_) hz, rfl, rfl, rfl, rfl⟩
  · rw [if_pos (by omega), decide_eq_true_iff] at a5
    have hne : ins ≠ [] := fun e => by rw [e] at a5; simp at a5
    refine ⟨hne, rfl, fun x hx => ?_⟩
    obtain ⟨j, hj, rfl⟩ := List.mem_iff_getElem.1 hx
    have := a6 j hj
    unfold firstN
    rw [if_neg hne, ← this]
    unfold gb
    rw [List.getElem?_eq_getElem hj]
    rfl
  · rw [if_neg (by omega), decide_eq_true_iff] at a5
    exact ⟨List.eq_nil_of_length_eq_zero a5.1, List.eq_nil_of_length_eq_zero a5.2⟩

theorem flat_ge (ins : List (List Bool)) : ins.length ≤ (ins.flatMap (fun l => signs l ++ [10])).length := by
  induction ins with
  | nil => simp
  | cons x ins ih => simp only [List.flatMap_cons, List.length_append, List.length_cons, List.length_nil]; omega

theorem text_long {kind prop : Int} {start : List Bool} {ins : List (List Bool)} {k : Nat} (h : rightK kind prop start ins k = true) : ins.length ≤ (witText kind prop start ins).length := by
  unfold rightK right1 right0 at h
  rw [Bool.and_eq_true, Bool.and_eq_true, decide_eq_true_iff] at h
  obtain ⟨⟨⟨a1, a2, a3, a4⟩, a5⟩, _⟩ := h
  unfold witText
  rw [if_neg (by omega)]
  by_cases hk : kind = 1
  · unfold witLines
    rw [if_pos hk]
    simp only [List.flatMap_append, List.flatMap_cons, List.length_append, List.flatMap_map]
    have := flat_ge ins
    omega
  · rw [if_neg hk, decide_eq_true_iff] at a5
    omega

set_option maxRecDepth 100000 in
set_option maxHeartbeats 4000000 in
theorem witWrites_short (kind prop : Int) (v2 v3 : Value) (start : List Bool) (ins : List (List Bool)) (w : World) (p1 : prop ≤ 9223372036854775807) (hs : BoolsSl w v2 start) (hi : GridSl w v3 ins) (hsh : shortP start ins 40) (ht : Tab w) (hm : ML w) :
    Calls Tryd.prog 4 #[.agg #[.int .i64 kind, .int .i64 prop, v2, v3]] w fun e w' => e = .returned (.bool true) ∧ Below w.heap.size w w' := by
  have HT := Lib.hid ht; clear ht
  have HM := Lib.hid hm; clear hm
  have HSh := Lib.hid hsh
  have HP1 := Lib.hid p1; clear p1
  have hLen := witText_len (kind := kind) HP1.out hsh
  obtain ⟨S, hS⟩ : ∃ S : ByteArray, (⟨(witText kind prop start ins).toArray⟩ : ByteArray) = S := ⟨_, rfl⟩
  have HSd : Hid (S.data.toList = witText kind prop start ins) := by show _ = _; rw [← hS]
  have hSz : S.size ≤ 100000 := by rw [← list_size, HSd.out]; exact hLen
  have HS0 := Lib.hid hs
  have HI0 := Lib.hid hi
  have HWr := Lib.hid (fun u (h2 : BoolsSl u v2 start) (h3 : GridSl u v3 ins) (t : Tab u) => wit_Write_any kind prop v2 v3 start ins u HP1.out h2 h3 HSh.out t)
  have HRw := Lib.hid (fun u (h2 : BoolsSl u v2 start) (h3 : GridSl u v3 ins) => ref18_Write_any kind prop v2 v3 start ins u HP1.out h2 h3 HSh.out)
  have HShort := Lib.hid (fun u (h2 : BoolsSl u v2 start) (h3 : GridSl u v3 ins) => law17_Short v2 v3 start ins 40 u h2 h3)
  rw [show decide (shortP start ins 40) = true by simpa using hsh] at HShort
  rw [show (((40 : Nat)) : Int) = 40 from rfl] at HShort
  rw [hS] at HWr HRw
  obtain ⟨a2, c2, rfl, _⟩ := hs
  obtain ⟨a3, c3, rfl, i1, i2, _, _⟩ := hi
  have hin : ins.length ≤ 40 := hsh.2.1
  have hB := Blk.new w #[.int .i64 kind, .int .i64 prop, .slice a2 start.length c2, .slice a3 ins.length c3] 27
  have q := (Kp.refl (fun _ => False) w).alloc (.cells #[.int .i64 kind, .int .i64 prop, .slice a2 start.length c2, .slice a3 ins.length c3] 27)
  obtain ⟨W1, hW1⟩ : ∃ W1, w.alloc (.cells #[.int .i64 kind, .int .i64 prop, .slice a2 start.length c2, .slice a3 ins.length c3] 27) = W1 := ⟨_, rfl⟩
  rw [hW1] at hB q
  have HB := Lib.hid hB
  have HQ := Lib.hid q
  have k0 := hB.cell (i := 0) rfl
  have k1 := hB.cell (i := 1) rfl
  have k2 := hB.cell (i := 2) rfl
  have k3 := hB.cell (i := 3) rfl
  have gS : (S.toList == S.toList) = true := by simp
  have gS2 : (S.toList != S.toList) = false := by simp
  clear hB q hsh hS hLen
  go_enter Tryd.func4, Tryd.ntmps4
  go_wp2_with fail
  refine (HShort.out _ (HS0.out.kp HQ.out) (HI0.out.kp HQ.out)).mono ?_
  rintro e w2 ⟨rfl, hK2⟩
  have HQ2 := Lib.hid (HQ.out.trans hK2 (fun _ _ h => h))
  have hb2 := HB.out.kp hK2 (fun h => h)
  have k0' := hb2.cell (i := 0) rfl
  have k1' := hb2.cell (i := 1) rfl
  have k2' := hb2.cell (i := 2) rfl
  have k3' := hb2.cell (i := 3) rfl
  have HB2 := Lib.hid hb2
  clear hb2 hK2 k0 k1 k2 k3
  go_wp2_with fail
  refine (HWr.out _ (HS0.out.kp HQ2.out) (HI0.out.kp HQ2.out) (HT.out.kp HQ2.out)).mono ?_
  rintro e w3 ⟨rfl, hK3⟩
  have HQ3 := Lib.hid (HQ2.out.trans hK3 (fun _ _ h => h))
  have hb3 := HB2.out.kp hK3 (fun h => h)
  have k0 := hb3.cell (i := 0) rfl
  have k1 := hb3.cell (i := 1) rfl
  have k2 := hb3.cell (i := 2) rfl
  have k3 := hb3.cell (i := 3) rfl
  have HB3 := Lib.hid hb3
  clear hb3 hK3 k0' k1' k2' k3'
  go_wp2_with fail
  refine (HRw.out _ (HS0.out.kp HQ3.out) (HI0.out.kp HQ3.out)).mono ?_
  rintro e w4 ⟨rfl, hK4⟩
  have HQ4 := Lib.hid (HQ3.out.trans hK4 (fun _ _ h => h))
  have hb4 := HB3.out.kp hK4 (fun h => h)
  have k0' := hb4.cell (i := 0) rfl
  have k1' := hb4.cell (i := 1) rfl
  have k2' := hb4.cell (i := 2) rfl
  have k3' := hb4.cell (i := 3) rfl
  have HB4 := Lib.hid hb4
  clear hb4 hK4 k0 k1 k2 k3
  go_wp2_with fail
  obtain ⟨wa, rfl⟩ : ∃ wa : World, wa = w4 := ⟨_, rfl⟩
  go_cut [4, 5, 6] (fun s4 s5 s6 wx => s4 = .int .i64 start.length ∧ s5 = .int .i64 0 ∧ s6 = .bool (right0 kind prop) ∧ ∃ n : Nat, wx = wa.drewN n)
  case first =>
    clear HShort HWr HRw gS gS2
    by_cases h1 : 0 ≤ kind
    · have f1 : decide (0 ≤ kind) = true := by simpa using h1
      by_cases h2 : kind ≤ 2
      · have f2 : decide (kind ≤ 2) = true := by simpa using h2
        by_cases h3 : 0 ≤ prop
        · have f3 : decide (0 ≤ prop) = true := by simpa using h3
          by_cases h4 : prop < 1000000000
          · have f4 : decide (prop < 1000000000) = true := by simpa using h4
            have HR : Hid (right0 kind prop = true) := by show _ = _; unfold right0; rw [decide_eq_true_iff]; exact ⟨h1, h2, h3, h4⟩
            clear h1 h2 h3 h4
            go_quiet (fail)
            go_wp2
            go_meet
            case rel => exact ⟨rfl, rfl, by rw [HR.out], _, rfl⟩
          · have f4 : decide (prop < 1000000000) = false := by simpa using h4
            have HR : Hid (right0 kind prop = false) := by show _ = _; unfold right0; rw [decide_eq_false_iff_not]; exact fun h => h4 h.2.2.2
            clear h1 h2 h3 h4
            go_quiet (fail)
            go_wp2
            go_meet
            case rel => exact ⟨rfl, rfl, by rw [HR.out], _, rfl⟩
        · have f3 : decide (0 ≤ prop) = false := by simpa using h3
          have HR : Hid (right0 kind prop = false) := by show _ = _; unfold right0; rw [decide_eq_false_iff_not]; exact fun h => h3 h.2.2.1
          clear h1 h2 h3
          go_quiet (fail)
          go_wp2
          go_meet
          case rel => exact ⟨rfl, rfl, by rw [HR.out], _, rfl⟩
      · have f2 : decide (kind ≤ 2) = false := by simpa using h2
        have HR : Hid (right0 kind prop = false) := by show _ = _; unfold right0; rw [decide_eq_false_iff_not]; exact fun h => h2 h.2.1
        clear h1 h2
        go_quiet (fail)
        go_wp2
        go_meet
        case rel => exact ⟨rfl, rfl, by rw [HR.out], _, rfl⟩
    · have f1 : decide (0 ≤ kind) = false := by simpa using h1
      have HR : Hid (right0 kind prop = false) := by show _ = _; unfold right0; rw [decide_eq_false_iff_not]; exact fun h => h1 h.1
      clear h1
      go_quiet (fail)
      go_wp2
      go_meet
      case rel => exact ⟨rfl, rfl, by rw [HR.out], _, rfl⟩
  case rest =>
    obtain ⟨rfl, rfl, rfl, nq, hwq⟩ := hcut
    have HQ5 := HQ4.out.trans ((Kp.refl (fun _ => False) wa).drewN nq) (fun _ _ h => h)
    have HB5 := HB4.out.drewN nq
    rw [← hwq] at HQ5 HB5
    have hq5 := Lib.hid HQ5; clear HQ5
    have hb5 := Lib.hid HB5; clear HB5
    clear hwq k0' k1' k2' k3' HQ HQ2 HQ3 HQ4 HB HB2 HB3 HB4 HShort HWr HRw gS gS2
    have k0 := hb5.out.cell (i := 0) rfl
    have k2 := hb5.out.cell (i := 2) rfl
    have k3 := hb5.out.cell (i := 3) rfl
    obtain ⟨r0, hr0⟩ : ∃ r, right0 kind prop = r := ⟨_, rfl⟩
    have HR0 := Lib.hid hr0
    rw [hr0]
    clear hr0
    go_upto_if 46 with (fail)
    obtain ⟨wb, rfl⟩ : ∃ wb : World, wb = wc := ⟨_, rfl⟩
    go_cut [6] (fun s6 wx => s6 = .bool (right1 kind prop start ins) ∧ wb = wx)
    case first =>
      have hR1 : right1 kind prop start ins = (r0 && (if kind = 1 then decide (0 < ins.length) else decide (start.length = 0 ∧ ins.length = 0))) := by unfold right1; rw [HR0.out]
      by_cases hk : kind = 1
      · have e1 : ((kind : Int) == 1) = true := by simp [hk]
        rw [if_pos hk] at hR1
        cases r0 with
        | false =>
          have HR1 := Lib.hid (hR1.trans (by simp : _ = false))
          clear hR1 hk
          go_wp2_with fail
          go_meet
          case rel => exact ⟨by rw [HR1.out], rfl⟩
        | true =>
          by_cases hn : 0 < ins.length
          · have e2 : decide ((0 : Int) < (ins.length : Int)) = true := decide_eq_true (by omega)
            have e3 : decide (0 < ins.length) = true := by simpa using hn
            have HR1 := Lib.hid (hR1.trans (by rw [e3]; rfl : _ = true))
            clear hR1 hk hn
            go_wp2_with fail
            go_meet
            case rel => exact ⟨by rw [HR1.out], rfl⟩
          · have e2 : decide ((0 : Int) < (ins.length : Int)) = false := decide_eq_false (by omega)
            have e3 : decide (0 < ins.length) = false := by simpa using hn
            have HR1 := Lib.hid (hR1.trans (by rw [e3]; rfl : _ = false))
            clear hR1 hk hn
            go_wp2_with fail
            go_meet
            case rel => exact ⟨by rw [HR1.out], rfl⟩
      · have e1 : ((kind : Int) == 1) = false := by simpa using hk
        rw [if_neg hk] at hR1
        cases r0 with
        | false =>
          have HR1 := Lib.hid (hR1.trans (by simp : _ = false))
          clear hR1 hk
          go_wp2_with fail
          go_meet
          case rel => exact ⟨by rw [HR1.out], rfl⟩
        | true =>
          by_cases hs0 : start.length = 0
          · have e4 : ((start.length : Int) == 0) = true := beq_iff_eq.2 (by omega)
            by_cases hn : ins.length = 0
            · have e2 : ((ins.length : Int) == 0) = true := beq_iff_eq.2 (by omega)
              have HR1 := Lib.hid (hR1.trans (by rw [decide_eq_true ⟨hs0, hn⟩]; rfl : _ = true))
              clear hR1 hk hn hs0
              go_wp2_with fail
              go_meet
              case rel => exact ⟨by rw [HR1.out], rfl⟩
            · have e2 : ((ins.length : Int) == 0) = false := beq_eq_false_iff_ne.2 (by omega)
              have HR1 := Lib.hid (hR1.trans (by rw [decide_eq_false (fun h => hn h.2)]; rfl : _ = false))
              clear hR1 hk hn hs0
              go_wp2_with fail
              go_meet
              case rel => exact ⟨by rw [HR1.out], rfl⟩
          · have e4 : ((start.length : Int) == 0) = false := beq_eq_false_iff_ne.2 (by omega)
            have HR1 := Lib.hid (hR1.trans (by rw [decide_eq_false (fun h => hs0 h.1)]; rfl : _ = false))
            clear hR1 hk hs0
            go_wp2_with fail
            go_meet
            case rel => exact ⟨by rw [HR1.out], rfl⟩
    case rest =>
      obtain ⟨rfl, rfl⟩ := hcut
      clear HR0
      have HI5 := Lib.hid (HI0.out.kp hq5.out)
      go_wp2_with fail
      have HFi := Lib.hid (show firstN ins = if ins = [] then 0 else (gb ins 0).length from rfl)
      go_loop [5, 6, 7] (fun v5 v6 v7 => ∃ k : Nat, k ≤ ins.length ∧ v7 = .int .i64 k ∧ v5 = .int .i64 ((if k = 0 then 0 else (gb ins 0).length : Nat) : Int) ∧ v6 = .bool (rightK kind prop start ins k)) (fun _ _ v7 => ins.length - (intOf v7).toNat)
      case atStart => exact ⟨0, Nat.zero_le _, rfl, rfl, by rw [show rightK kind prop start ins 0 = right1 kind prop start ins by unfold rightK; simp]⟩
      case round =>
        obtain ⟨k, hk, rfl, rfl, rfl⟩ := hrel
        by_cases hlt : k < ins.length
        · have dd : decide ((k : Int) < (ins.length : Int)) = true := decide_eq_true (by omega)
          have i0 : (0 : Int) ≤ (k : Int) := by omega
          obtain ⟨a3', c3', E3, _, _, _, hGA⟩ := HI5.out
          simp only [Value.slice.injEq] at E3
          obtain ⟨rfl, _, rfl⟩ := E3
          obtain ⟨b, off, v, rfl, ck, hv⟩ := hGA.row hlt
          obtain ⟨av, cv, rfl, _, _, _, _⟩ := hv
          have HSu := Lib.hid (rightK_succ kind prop start ins k)
          obtain ⟨m, hm⟩ : ∃ m, (gb ins k).length = m := ⟨_, rfl⟩
          rw [hm] at ck HSu
          clear hGA
          obtain ⟨R, hR⟩ : ∃ R, rightK kind prop start ins k = R := ⟨_, rfl⟩
          rw [hR] at HSu ⊢
          by_cases k0 : k = 0
          · have ck0 : wb.cell? ⟨b, off, none⟩ = some (.slice av m cv) := by rw [k0] at ck; exact ck
            have e0 : ((k : Int) == 0) = true := by simp [k0]
            rw [if_pos k0]
            have HS5 : Hid ((if k + 1 = 0 then 0 else (gb ins 0).length) = m) := by show _ = _; rw [if_neg (by omega), ← hm, k0]
            have HS6 := Lib.hid (HSu.out.trans (by rw [decide_eq_true (show m = (gb ins 0).length by rw [← hm, k0])]; simp : _ = R))
            clear k0 hm hR
            have em : ((m : Int) == (m : Int)) = true := by simp
            cases R
            all_goals
              go_wp2_with fail
              exact ⟨⟨k + 1, by omega, by go_num, by rw [HS5.out], by rw [HS6.out]⟩, by simp [intOf]; omega⟩
          · have e0 : ((k : Int) == 0) = false := beq_eq_false_iff_ne.2 (by omega)
            rw [if_neg k0]
            obtain ⟨g, hg⟩ : ∃ g, (gb ins 0).length = g := ⟨_, rfl⟩
            have HS5 : Hid ((if k + 1 = 0 then 0 else g) = g) := by show _ = _; rw [if_neg (by omega)]
            rw [hg] at HSu ⊢
            clear k0 hm hR
            cases R with
            | false =>
              have HS6 := Lib.hid (HSu.out.trans (Bool.false_and _))
              go_wp2_with fail
              exact ⟨⟨k + 1, by omega, by go_num, by rw [HS5.out], by rw [HS6.out]⟩, by simp [intOf]; omega⟩
            | true =>
              by_cases hmg : m = g
              · have em : ((m : Int) == (g : Int)) = true := beq_iff_eq.2 (by omega)
                have HS6 := Lib.hid (HSu.out.trans (by rw [decide_eq_true hmg]; rfl : _ = true))
                clear hmg
                go_wp2_with fail
                exact ⟨⟨k + 1, by omega, by go_num, by rw [HS5.out], by rw [HS6.out]⟩, by simp [intOf]; omega⟩
              · have em : ((m : Int) == (g : Int)) = false := beq_eq_false_iff_ne.2 (by omega)
                have HS6 := Lib.hid (HSu.out.trans (by rw [decide_eq_false hmg]; rfl : _ = false))
                clear hmg
                go_wp2_with fail
                exact ⟨⟨k + 1, by omega, by go_num, by rw [HS5.out], by rw [HS6.out]⟩, by simp [intOf]; omega⟩
        · have dd : decide ((k : Int) < (ins.length : Int)) = false := decide_eq_false (by omega)
          obtain rfl : k = ins.length := by omega
          have HIN : Hid (((if ins.length = 0 then 0 else (gb ins 0).length : Nat)) = firstN ins) := by
            show _ = _
            rw [HFi.out]
            cases ins with
            | nil => rfl
            | cons x r => simp
          rw [HIN.out]
          have HRd := Lib.hid (fun u hu => wit_Read_any S (start.length : Nat) (firstN ins : Nat) u hSz hu)
          obtain ⟨R, hR⟩ : ∃ R, rightK kind prop start ins ins.length = R := ⟨_, rfl⟩
          have HRR := Lib.hid hR
          rw [hR]
          clear hR HIN
          go_wp2_with fail
          refine (HRd.out _ (HM.out.kp hq5.out)).mono ?_
          rintro e w6 ⟨⟨v, rfl, hv⟩, hK6⟩
          have HV := Lib.hid hv
          obtain ⟨o, hO⟩ : ∃ o, witT S (start.length : Nat) (firstN ins : Nat) = o := ⟨_, rfl⟩
          have HO := Lib.hid hO
          rw [hO] at HV hv ⊢
          obtain ⟨u2, u3, rfl, ⟨x2, y2, rfl, _⟩, ⟨x3, y3, rfl, _⟩⟩ := hv
          clear hO
          have HB6 := Lib.hid (Blk.new w6 #[.int .i64 o.w.kind, .int .i64 o.w.prop, .slice x2 o.w.start.length y2, .slice x3 o.w.ins.length y3] 27)
          have q6 := (Kp.refl (fun _ => False) w6).alloc (.cells #[.int .i64 o.w.kind, .int .i64 o.w.prop, .slice x2 o.w.start.length y2, .slice x3 o.w.ins.length y3] 27)
          have HQ6 := Lib.hid ((hq5.out.trans hK6 (fun _ _ h => h)).trans q6 (fun _ _ h => h))
          have HBw := Lib.hid ((hb5.out.kp hK6 (fun h => h)).kp q6 (fun h => h))
          have HV6 := Lib.hid (HV.out.kp q6)
          have k0' := HBw.out.cell (i := 0) rfl
          have k1' := HBw.out.cell (i := 1) rfl
          have k2' := HBw.out.cell (i := 2) rfl
          have k3' := HBw.out.cell (i := 3) rfl
          have HLv := Lib.hid (fun u hu => wit_lives u hu)
          clear hK6 q6 k0 k2 k3
          cases R with
          | false =>
            go_wp2_with fail
            refine (HLv.out _ (HM.out.kp HQ6.out)).mono ?_
            rintro e w7 ⟨rfl, hK7⟩
            have HK7 := Lib.hid (HQ6.out.trans hK7 (fun _ _ h => h))
            clear hK7
            go_wp2_with fail
            go_ret
            exact ⟨rfl, HK7.out.below (Nat.le_refl _) (fun _ _ h => h)⟩
          | true =>
            obtain ⟨d, hd, rfl, rfl, rfl, rfl⟩ := right_back HSd.out HRR.out (by have := text_long HRR.out; rw [← HSd.out, list_size] at this; exact this)
            rw [HO.out] at hd
            subst hd
            simp only [WitO.w, WitO.at_, WitO.e] at *
            have n1 : ((S.size : Int) == (S.size : Int)) = true := by simp
            have hSm := ref18_Same _ _ d _ HV6.out ⟨_, _, rfl, HS0.out.kp HQ6.out, HI0.out.kp HQ6.out⟩ (by omega)
            have HSm := Lib.hid hSm
            clear hSm
            go_wp2_with fail
            refine HSm.out.mono ?_
            rintro e w7 ⟨rfl, hK7⟩
            have HK7 := Lib.hid (HQ6.out.trans hK7 (fun _ _ h => h))
            clear hK7
            go_wp2_with fail
            refine (HLv.out _ (HM.out.kp HK7.out)).mono ?_
            rintro e w8 ⟨rfl, hK8⟩
            have HK8 := Lib.hid (HK7.out.trans hK8 (fun _ _ h => h))
            clear hK8
            go_wp2_with fail
            go_ret
            exact ⟨rfl, HK8.out.below (Nat.le_refl _) (fun _ _ h => h)⟩

set_option maxRecDepth 100000 in
set_option maxHeartbeats 4000000 in
theorem witWrites_long (kind prop : Int) (v2 v3 : Value) (start : List Bool) (ins : List (List Bool)) (w : World) (hs : BoolsSl w v2 start) (hi : GridSl w v3 ins) (hsh : ¬ shortP start ins 40) (hm : ML w) :
    Calls Tryd.prog 4 #[.agg #[.int .i64 kind, .int .i64 prop, v2, v3]] w fun e w' => e = .returned (.bool true) ∧ Below w.heap.size w w' := by
  have HM := Lib.hid hm; clear hm
  have HS0 := Lib.hid hs
  have HI0 := Lib.hid hi
  have HShort := Lib.hid (fun u (h2 : BoolsSl u v2 start) (h3 : GridSl u v3 ins) => law17_Short v2 v3 start ins 40 u h2 h3)
  rw [show decide (shortP start ins 40) = false by simpa using hsh] at HShort
  rw [show (((40 : Nat)) : Int) = 40 from rfl] at HShort
  obtain ⟨a2, c2, rfl, _⟩ := hs
  obtain ⟨a3, c3, rfl, _⟩ := hi
  have hB := Blk.new w #[.int .i64 kind, .int .i64 prop, .slice a2 start.length c2, .slice a3 ins.length c3] 27
  have q := (Kp.refl (fun _ => False) w).alloc (.cells #[.int .i64 kind, .int .i64 prop, .slice a2 start.length c2, .slice a3 ins.length c3] 27)
  obtain ⟨W1, hW1⟩ : ∃ W1, w.alloc (.cells #[.int .i64 kind, .int .i64 prop, .slice a2 start.length c2, .slice a3 ins.length c3] 27) = W1 := ⟨_, rfl⟩
  rw [hW1] at hB q
  have HQ := Lib.hid q
  have k2 := hB.cell (i := 2) rfl
  have k3 := hB.cell (i := 3) rfl
  have HLv := Lib.hid (fun u hu => wit_lives u hu)
  clear hB q hsh
  go_enter Tryd.func4, Tryd.ntmps4
  go_wp2_with fail
  refine (HShort.out _ (HS0.out.kp HQ.out) (HI0.out.kp HQ.out)).mono ?_
  rintro e w2 ⟨rfl, hK2⟩
  have HQ2 := Lib.hid (HQ.out.trans hK2 (fun _ _ h => h))
  clear hK2
  go_wp2_with fail
  refine (HLv.out _ (HM.out.kp HQ2.out)).mono ?_
  rintro e w3 ⟨rfl, hK3⟩
  have HQ3 := Lib.hid (HQ2.out.trans hK3 (fun _ _ h => h))
  clear hK3
  go_wp2_with fail
  go_ret
  exact ⟨rfl, HQ3.out.below (Nat.le_refl _) (fun _ _ h => h)⟩

theorem witWrites_walk (w : World) (v : Value) (hv : WitArg w v) (ht : Tab w) (hm : ML w) :
    Calls Tryd.prog 4 #[v] w fun e w' => e = .returned (.bool true) ∧ Below w.heap.size w w' := by
  obtain ⟨kind, prop, v2, v3, start, ins, rfl, hp, hs, hi⟩ := hv
  by_cases h : shortP start ins 40
  · exact witWrites_short kind prop v2 v3 start ins w hp hs hi h ht hm
  · exact witWrites_long kind prop v2 v3 start ins w hs hi h hm

end Go.Proofs.YtpejimlmokfppaaDoor

/-
  The package-level variables that the rows list: a world that holds them, and the table of powers of ten out of a row's list.
-/
namespace Go.Proofs.YtpejimlmokfppaaDoor
open Go.RowKit

def synS : ByteArray := { data := #[105, 110, 118, 97, 108, 105, 100, 32, 115, 121, 110, 116, 97, 120] }
def rangeS : ByteArray := { data := #[118, 97, 108, 117, 101, 32, 111, 117, 116, 32, 111, 102, 32, 114, 97, 110, 103, 101] }
noncomputable def low : Nat := (World.holding Tryd.prog default ⟨#[], #[], []⟩).heap.size

def putCells (g : Nat) (cs : Array Value) (w : World) : World :=
  { w with heap := w.heap.modify g fun
      | .cells _ t frozen => .cells cs t frozen
      | o => o }

def tab32 : Array Value := #[0, 1, 28, 2, 29, 14, 24, 3, 30, 22, 20, 15, 25, 17, 4, 8, 31, 27, 13, 23, 21, 19, 16, 7, 26, 12, 18, 6, 11, 5, 10, 9].map (Value.int .u8)
def tab64 : Array Value := #[0, 1, 56, 2, 57, 49, 28, 3, 61, 58, 42, 50, 38, 29, 17, 4, 62, 47, 59, 36, 45, 43, 51, 22, 53, 39, 33, 30, 24, 18, 12, 5, 63, 55, 48, 27, 60, 41, 37, 16, 46, 35, 44, 21, 52, 32, 23, 11, 54, 26, 40, 15, 34, 20, 31, 10, 25, 14, 19, 9, 13, 8, 7, 6].map (Value.int .u8)
def tabPow : Array Value := (Lib.pow10Tab.map (Value.int .u64)).toArray

noncomputable def laidWorld (os : Os) : World :=
  putCells 5 tab64 (putCells 4 tab32 (putCells 3 tabPow
    (putCells 2 #[.iface 120 (.pointer (some ⟨low + 1, 0, none⟩))] (putCells 1 #[.iface 120 (.pointer (some ⟨low, 0, none⟩))]
      (World.holding Tryd.prog os ⟨#[.cells #[.string synS] 122, .cells #[.string rangeS] 122], #[], []⟩)))))

theorem gPowType : (Tryd.prog.globals[3]?).map (·.type) = some 114 := by kernel_rfl
theorem cells64 : Tryd.prog.cellsOf 102 = 1 := by kernel_rfl
theorem cellsPow : Tryd.prog.cellsOf 114 = 20 := by kernel_rfl

theorem tab_of_laid {W : World} {x y : String × DataW Unit} {r : List (String × DataW Unit)}
    (h : laidMet Tryd.prog (x :: y :: ("internal/strconv.uint64pow10", Rows.laid_internal_strconv_uint64pow10) :: r) W) : Tab W :=
  Lib.tabIs_of_head (zs := Lib.pow10Tab) gPow gPowType Tryd.underlying114 Tryd.underlying102 cells64 cellsPow (laidMet.tail (laidMet.tail h))

end Go.Proofs.YtpejimlmokfppaaDoor

/-
  As Laid, with the two tables of unicode/utf8, and the library's MaxLen out of the world's shape.
-/
namespace Go.Proofs.YtpejimlmokfppaaDoor
open Go.RowKit

def tabFirst : Array Value := (Go.Pinned.utf8FirstZ.map (fun (n : Nat) => Value.int .u8 (n : Int))).toArray
def tabAccept : Array Value := #[128, 191, 160, 191, 128, 159, 144, 191, 128, 143, 0, 0, 0, 0, 0, 0, 0, 0, 0, 0, 0, 0, 0, 0, 0, 0, 0, 0, 0, 0, 0, 0].map (Value.int .u8)

theorem maxLen_cell {W : World} (h : W.ShapedOpen Tryd.prog) : ∃ m, W.cell? ⟨0, 0, none⟩ = some (.int .i64 m) :=
  cell_of_shapedOpen_int (t := 3) (zero := #[.int .i64 0]) h (of_decide_eq_true (by kernel_rfl)) (by kernel_rfl) rfl (by kernel_rfl) (by kernel_rfl) Tryd.underlying3

end Go.Proofs.YtpejimlmokfppaaDoor
