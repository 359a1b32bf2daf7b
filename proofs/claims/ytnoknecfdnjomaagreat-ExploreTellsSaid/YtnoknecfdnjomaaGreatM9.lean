/-
  latchetref17.Whole: all that a small machine does.
-/
import Derived.Test.YtnoknecfdnjomaaGreatM8
import Derived.Test.YtnoknecfdnjomaaGreatM7
import Derived.Test.YtnoknecfdnjomaaGreatM4
import Derived.Test.YtnoknecfdnjomaaGreatM6
set_option linter.unusedVariables false
set_option linter.unusedSimpArgs false
namespace Go.Proofs.YtnoknecfdnjomaaGreat
open Go.RowKit

def nxK (C : Circ) (t k : Nat) : List Nat := ((List.range k).filter (hldN C t)).map (nxtN C t)
def nxL (C : Circ) (t : Nat) : List Nat := nxK C t (2 ^ C.ins.length)
def bdK (C : Circ) (pr : Int) (t k : Nat) : Bool := (List.range k).any (fun i => hldN C t i && bdN C pr t i)
theorem nxK_put {C : Circ} {t k : Nat} (h : hldN C t k = true) : nxK C t (k + 1) = nxK C t k ++ [nxtN C t k] := by
 unfold nxK; rw [List.range_succ, List.filter_append]; simp [h]
theorem nxK_skip {C : Circ} {t k : Nat} (h : hldN C t k = false) : nxK C t (k + 1) = nxK C t k := by
 unfold nxK; rw [List.range_succ, List.filter_append]; simp [h]
theorem nxK_len (C : Circ) (t k : Nat) : (nxK C t k).length ≤ k := by
 unfold nxK
 rw [List.length_map]
 have := List.length_filter_le (hldN C t) (List.range k)
 rw [List.length_range] at this
 exact this
theorem bdK_put {C : Circ} {pr : Int} {t k : Nat} (h : hldN C t k = true) : bdK C pr t (k + 1) = (bdK C pr t k || bdN C pr t k) := by
 unfold bdK; rw [List.range_succ, List.any_append]; simp [h]
theorem bdK_skip {C : Circ} {pr : Int} {t k : Nat} (h : hldN C t k = false) : bdK C pr t (k + 1) = bdK C pr t k := by
 unfold bdK; rw [List.range_succ, List.any_append]; simp [h]
theorem bdK_all (C : Circ) (pr : Int) (t : Nat) : bdK C pr t (2 ^ C.ins.length) = bdS C pr t := by
 unfold bdK bdS rowB
 rw [Bool.eq_iff_iff, List.any_eq_true, decide_eq_true_eq]
 rcases badK_cases (H := hldN C t) (B := bdN C pr t) (2 ^ C.ins.length) with ⟨h1, h2⟩ | ⟨j, h1, h2, h3, h4⟩
 ·constructor
  ·rintro ⟨i, hi, h⟩
   rw [Bool.and_eq_true] at h
   exact absurd h (h2 i (List.mem_range.1 hi))
  ·intro h; exact absurd h1 h
 ·constructor
  ·intro _; rw [h1]; omega
  ·intro _; exact ⟨j, List.mem_range.2 h2, by rw [h3, h4]; rfl⟩
theorem nxL_mem {C : Circ} {t u : Nat} : u ∈ nxL C t ↔ ∃ j, j < 2 ^ C.ins.length ∧ hldN C t j = true ∧ nxtN C t j = u := by
 unfold nxL nxK
 rw [List.mem_map]
 constructor
 ·rintro ⟨j, hj, rfl⟩
  have := List.mem_filter.1 hj
  exact ⟨j, List.mem_range.1 this.1, this.2, rfl⟩
 ·rintro ⟨j, h1, h2, rfl⟩
  exact ⟨j, List.mem_filter.2 ⟨List.mem_range.2 h1, h2⟩, rfl⟩
theorem nxL_edge (C : Circ) : (fun s t => decide (t ∈ nxL C s)) = edS C := by
 funext s t
 unfold edS
 rw [Bool.eq_iff_iff, decide_eq_true_eq, nxL_mem]
 unfold rowF2
 rw [succK_is]
 constructor
 ·rintro ⟨j, h1, h2, h3⟩; exact ⟨j, h1, h2, by omega⟩
 ·rintro ⟨j, h1, h2, h3⟩; exact ⟨j, h1, h2, by omega⟩
theorem nxOk (C : Circ) (hl : C.lats.length ≤ 10) (hi : C.ins.length ≤ 8) : NxOk (nS C) (nxL C) := by
 refine ⟨Nat.pow_le_pow_right (n := 2) (by decide) hl, fun s _ t ht => ?_, fun s _ => ?_⟩
 ·obtain ⟨j, -, -, h⟩ := nxL_mem.1 ht
  have := numP_lt (nextM C (stN C s) (inN2 C j))
  rw [nextM_len] at this
  rw [← h]; exact this
 ·exact Nat.le_trans (nxK_len C s _) (Nat.pow_le_pow_right (n := 2) (by decide) hi)

theorem blk_ne {w : World} {a b : Nat} {c c' : Array Value} {t t' : TypeId} (h : Blk w a c t) (h' : Blk w b c' t') (e : t ≠ t') : a ≠ b := fun q => by
 subst q
 have h3 : w.heap[a]? = some (.cells c t (0, 0)) := h
 have h4 : w.heap[a]? = some (.cells c' t' (0, 0)) := h'
 rw [h3] at h4
 cases h4
 exact e rfl

structure WAt (wr : World) (lo a b d n q r4 : Nat) (fS fB : Nat → Bool) (R : Nat → Value) (A : Nat → List Int) : Prop where
  ba : BolB wr a n fS
  bb : BolB wr b n fB
  rows : RowsM wr lo d n R A
  all : Blk wr q (allV a b d n n n n) 41
  res : Blk wr r4 #[.slice none 0 0, .slice none 0 0, .slice none 0 0] 41
  ab : a ≠ b
  qr : q ≠ r4
  la : lo ≤ a
  lb : lo ≤ b
section
variable {wr w' : World} {lo a b d n q r4 : Nat} {fS fB : Nat → Bool} {R : Nat → Value} {A : Nat → List Int}
theorem WAt.kp (h : WAt wr lo a b d n q r4 fS fB R A) (k : Kp (fun _ => False) wr w') : WAt w' lo a b d n q r4 fS fB R A :=
 ⟨h.ba.kp k (fun h => h), h.bb.kp k (fun h => h), h.rows.kp k, h.all.kp k (fun h => h), h.res.kp k (fun h => h), h.ab, h.qr, h.la, h.lb⟩
theorem WAt.congr {fS' fB' : Nat → Bool} {A' : Nat → List Int} (h : WAt wr lo a b d n q r4 fS fB R A) (e1 : ∀ t, t < n → fS t = fS' t) (e2 : ∀ t, t < n → fB t = fB' t) (e3 : ∀ t, t < n → A t = A' t) : WAt wr lo a b d n q r4 fS' fB' R A' :=
 ⟨h.ba.congr e1, h.bb.congr e2, h.rows.congr e3, h.all, h.res, h.ab, h.qr, h.la, h.lb⟩
theorem WAt.setA (h : WAt wr lo a b d n q r4 fS fB R A) (s : Nat) (x : Bool) : WAt (wr.setCell ⟨a, s, none⟩ (.bool x)) lo a b d n q r4 (upB fS s x) fB R A ∧ Kp (fun j => j = a) wr (wr.setCell ⟨a, s, none⟩ (.bool x)) := by
 have k : Kp (fun j => j = a) wr (wr.setCell ⟨a, s, none⟩ (.bool x)) := Kp.set wr ⟨a, s, none⟩ _
 exact ⟨⟨h.ba.set s x, h.bb.kp k (fun e => h.ab e.symm), h.rows.kpO k (fun e => blk_ne h.rows.blk h.ba (by decide) e) (fun t ht j hj e => own_ne_blk (h.rows.ow t ht) h.ba (by decide) j hj e), h.all.kp k (fun e => blk_ne h.all h.ba (by decide) e), h.res.kp k (fun e => blk_ne h.res h.ba (by decide) e), h.ab, h.qr, h.la, h.lb⟩, k⟩
theorem WAt.setB (h : WAt wr lo a b d n q r4 fS fB R A) (s : Nat) (x : Bool) : WAt (wr.setCell ⟨b, s, none⟩ (.bool x)) lo a b d n q r4 fS (upB fB s x) R A ∧ Kp (fun j => j = b) wr (wr.setCell ⟨b, s, none⟩ (.bool x)) := by
 have k : Kp (fun j => j = b) wr (wr.setCell ⟨b, s, none⟩ (.bool x)) := Kp.set wr ⟨b, s, none⟩ _
 exact ⟨⟨h.ba.kp k (fun e => h.ab e), h.bb.set s x, h.rows.kpO k (fun e => blk_ne h.rows.blk h.bb (by decide) e) (fun t ht j hj e => own_ne_blk (h.rows.ow t ht) h.bb (by decide) j hj e), h.all.kp k (fun e => blk_ne h.all h.bb (by decide) e), h.res.kp k (fun e => blk_ne h.res h.bb (by decide) e), h.ab, h.qr, h.la, h.lb⟩, k⟩
theorem WAt.push {w1 w2 : World} {v' : Value} {k : Nat} {x : Int} (h : WAt wr lo a b d n q r4 fS fB R A) (hk : k < n) (hK : Kp (fun _ => False) wr w1)
  (hO : Own w2 lo 3 v' (iv (A k) ++ [.int .i64 x])) (hg : w1.grownBy w2 (R k).ownBlock) (hat : v'.ownBlock = (R k).ownBlock ∨ v'.ownBlock = some w1.heap.size) :
  WAt (w2.setCell ⟨d, k, none⟩ v') lo a b d n q r4 fS fB (up1 R k v') (up1 A k (A k ++ [x])) ∧ Kp (fun j => j = d ∨ (R k).ownBlock = some j) wr (w2.setCell ⟨d, k, none⟩ v') := by
 obtain ⟨h1, h2⟩ := h.rows.push hk hK hO hg hat
 have hS : ∀ {g : Nat} {c : Array Value} {t : TypeId}, Blk wr g c t → t ≠ 22 → t ≠ 3 → ¬ (g = d ∨ (R k).ownBlock = some g) := fun hB e1 e2 e => by
  rcases e with e | e
  ·exact blk_ne hB h.rows.blk e1 e
  ·exact own_ne_blk (h.rows.ow k hk) hB (fun q => e2 q.symm) _ e rfl
 refine ⟨⟨h.ba.kp h2 (hS h.ba (by decide) (by decide)), h.bb.kp h2 (hS h.bb (by decide) (by decide)), h1, h.all.kp h2 (hS h.all (by decide) (by decide)), h.res.kp h2 (hS h.res (by decide) (by decide)), h.ab, h.qr, h.la, h.lb⟩, h2⟩
end

theorem own_BS {u : World} {B : Nat} {sa : Option Addr} {n sc : Nat} {l : List Bool} (h : Own u B 4 (.slice sa n sc) (bv l)) (hn : l.length = n) (h9 : n ≤ 1000000) : BS u sa n l := by
 obtain ⟨a, c, e, -, -, -, hr⟩ := h.form
 simp only [Value.slice.injEq] at e
 obtain ⟨rfl, -, -⟩ := e
 exact ⟨hr, hn, Nat.le_trans h9 (by decide)⟩

theorem lt_and {t s : Nat} (h : t ≠ s) (x : Bool) : (decide (t < s) && x) = (decide (t < s + 1) && x) := by
 by_cases e : t < s
 ·rw [decide_eq_true e, decide_eq_true (show t < s + 1 by omega)]
 ·rw [decide_eq_false e, decide_eq_false (show ¬ t < s + 1 by omega)]

def OwnB (l : List Bool) (u : World) (v : Value) : Prop := ∃ sa sc, v = .slice sa l.length sc ∧ BS u sa l.length l
theorem OwnB.st (l : List Bool) : Stable (OwnB l) := fun _ _ _ k ⟨sa, sc, h1, h2⟩ => ⟨sa, sc, h1, h2.kp k⟩
def Made3 (B n : Nat) (u : World) (v : Value) : Prop := ∃ a b d, v = .agg (allV a b d n n n n) ∧ Blk u a (madeCells #[.bool false] n) 4 ∧ Blk u b (madeCells #[.bool false] n) 4 ∧ Blk u d (madeCells #[.slice none 0 0] n) 22 ∧ a ≠ b ∧ B ≤ a ∧ B ≤ b ∧ B ≤ d
theorem Made3.st (B n : Nat) : Stable (Made3 B n) := fun _ _ _ k ⟨a, b, d, h1, h2, h3, h4, h5⟩ => ⟨a, b, d, h1, h2.kp k (fun h => h), h3.kp k (fun h => h), h4.kp k (fun h => h), h5⟩
def NewC (B : Nat) (cs : Array Value) (t : TypeId) (u : World) (v : Value) : Prop := ∃ g, v = .pointer (some ⟨g, 0, none⟩) ∧ Blk u g cs t ∧ B ≤ g
theorem NewC.st (B : Nat) (cs : Array Value) (t : TypeId) : Stable (NewC B cs t) := fun _ _ _ k ⟨g, h1, h2, h3⟩ => ⟨g, h1, h2.kp k (fun h => h), h3⟩
theorem wpAny_tailO {P : Program} {ops : Array Oper} {Q : Exit → Act → World → Prop} (l : List Nat) {LP : Array Bool} {a : Act} {u : World} {K : Nat} (hK : l.length = K) (he : (opsAt ops l).map some = l.map (fun k => ops[k]?)) (hB : seqL ops l LP = true) (h : wpList P ops Q (opsAt ops l) a u) : wpAny P .any ops Q K LP a u :=
 wpAny_tailL l _ hK he hB h

theorem op_append1_at {P : Program} {w : World} {o : Oper} {a : Act} {post : Act → World → Prop} {Q : Exit → Act → World → Prop} (s x : Operand) (t e : TypeId)
  (ho : o.op = .call { callee := .builtin .append, args := #[s, x], argTypes := #[t, t] }) {z : Value} {bytes : Nat}
  (ht : P.underlying t = some (.slice e)) (hI : (P.info? e).map (fun i => (i.zero, i.size, i.bytes)) = some (some z, 1, bytes)) (hzs : z.cells.size = 1)
  {base : Nat} {v : Value} {cs : List Value} (hown : Own w base e v cs) (hs : a.eval s = v) (ad : Addr) (u : Value) (hx : a.eval x = .slice (some ad) 1 1) (hnew : w.cell? ad = some u) (h1 : u.oneCell' = true)
  (hbytes : (cs.length + 1) * bytes ≤ 140737488355328) (hm : cs.length + 1 ≤ maxLen) (hbase : base ≤ w.heap.size)
  (h : ∀ v' w', Own w' base e v' (cs ++ [u]) → w.grownBy w' v.ownBlock → (v'.ownBlock = v.ownBlock ∨ v'.ownBlock = some w.heap.size) → post (a.put o.dst v') w') : o.wp P a w post Q := by
 obtain ⟨i0, hi, hz0, hz1, hz2⟩ := info_parts hI
 obtain ⟨v', w', hr, h2, h3, _, h5⟩ := run_append_own_at (P := P) w base t o.type e i0 z 1 bytes ht hi hz0 hz1 hz2 hzs (by decide) v cs.length cs hown ad 1 1 [u] rfl (by
  intro j u' hj
  match j, hj with
  |0, hj =>
   have : ad.add 0 = ad := by unfold Addr.add; split <;> simp_all
   simp at hj
   rw [this, ← hj]; exact hnew) (by intro u' hu; simp at hu; subst hu; exact h1) hm hbytes hbase
 unfold Oper.wp execOp
 simp only [ho, resolve, invoke, builtin, Sem.run_bind, Sem.run_pure, Result.andThen_ok, List.map_toArray, List.map_cons, List.map_nil, hs, hx, hr]
 exact h v' w' (by unfold Own; rw [List.length_append]; exact h2) h3 h5

def WN (wp : World) (lo nl : Nat) (x : Int) (nxt : List Bool) (L : List Int) (o : Option Nat) : List Value → World → Prop
  | [], u => Kp (fun _ => False) wp u
  | [v], u => Kp (fun _ => False) wp u ∧ ∃ sa sc, v = .slice sa nl sc ∧ RowAt u sa (bv nxt)
  | [_, y], u => Kp (fun _ => False) wp u ∧ y = .int .i64 x
  | [_, _, z], u => Kp (fun _ => False) wp u ∧ ∃ g, z = .slice (some ⟨g, 0, none⟩) 1 1 ∧ u.cell? ⟨g, 0, none⟩ = some (.int .i64 x)
  | [_, _, _, v'], u => ∃ w1, Kp (fun _ => False) wp w1 ∧ Own u lo 3 v' (iv L ++ [.int .i64 x]) ∧ w1.grownBy u o ∧ (v'.ownBlock = o ∨ v'.ownBlock = some w1.heap.size)
  | _, _ => False
section
variable {wp u : World} {lo nl : Nat} {x : Int} {nxt : List Bool} {L : List Int} {o : Option Nat}
theorem WN.early : ∀ {vs : List Value}, WN wp lo nl x nxt L o vs u → vs.length ≤ 3 → Kp (fun _ => False) wp u
 |[], h, _ => h
 |[_], h, _ => h.1
 |[_, _], h, _ => h.1
 |[_, _, _], h, _ => h.1
 |[_, _, _, _], _, h => by simp at h
 |_ :: _ :: _ :: _ :: _ :: _, _, h => by simp at h
theorem WN.all : ∀ {vs : List Value}, WN wp lo nl x nxt L o vs u → Kp (fun j => o = some j) wp u
 |[], h => h.mono (fun _ _ h => h.elim)
 |[_], h => h.1.mono (fun _ _ h => h.elim)
 |[_, _], h => h.1.mono (fun _ _ h => h.elim)
 |[_, _, _], h => h.1.mono (fun _ _ h => h.elim)
 |[_, _, _, _], ⟨_, h, _, hg, _⟩ => (h.mono (T := fun j => o = some j) (fun _ _ h => h.elim)).grown hg (fun j hj _ => hj)
 |_ :: _ :: _ :: _ :: _ :: _, h => h.elim
end

theorem make_rows (n : Nat) (hn : n ≤ 1024) (u : World) : (Instr.makeSlice 39 (.int .i64 (n : Int)) (.int .i64 (n : Int))).run Tryz.prog u =
  .ok (.slice (some ⟨u.heap.size, 0, none⟩) n n) (u.alloc (.cells (madeCells #[.slice none 0 0] n) 22)) := by
 obtain ⟨i0, hi, hz0, hz1, hz2⟩ := info_parts (show (Tryz.prog.info? 22).map (fun i => (i.zero, i.size, i.bytes)) = some (some (.slice none 0 0), 1, 24) by kernel_rfl)
 have h := run_make (P := Tryz.prog) u 39 22 i0 (.slice none 0 0) Tryz.underlying39 hi hz0 .i64 .i64 (n : Int) (n : Int) (by omega) (Int.le_refl _) (by rw [hz2]; omega) (by omega)
 simpa [hz1, Value.cells] using h

set_option maxRecDepth 100000 in
set_option maxHeartbeats 16000000 in
theorem ref17_Whole {V : CV} {C : Circ} {p : Nat} {a4 a5 : Option Addr} {c4 c5 : Nat} {w : World} (hM : MAt w 81 V C p a4 c4 a5 c5) (hf : CFew C 1000000) (hg : GoodC C) (hl : C.lats.length ≤ 10) (hi : C.ins.length ≤ 8) (pr : Int) :
    Calls Tryz.prog 11 #[.pointer (some ⟨p, 0, none⟩), .int .i64 pr] w fun e w' => ∃ a b d, e = .returned (.agg (allV a b d (nS C) (nS C) (nS C) (nS C))) ∧ AllR w' a b d (nS C) (stS C) (bdS C pr) (nxL C) ∧ Kp (fun _ => False) w w' := by
  have hn9 : nS C ≤ 1024 := Nat.pow_le_pow_right (n := 2) (by decide) hl
  have hmx9' : 2 ^ C.ins.length ≤ 256 := Nat.pow_le_pow_right (n := 2) (by decide) hi
  have HII := Lib.hid (show (Tryz.prog.info? 3).map (fun i => (i.zero, i.size, i.bytes)) = some (some (.int .i64 0), 1, 8) by kernel_rfl)
  have HMl := Lib.hid (fun u (hu : Kp (fun _ => False) w u) => show u.cell? ⟨p, 2, none⟩ = some (.slice V.al C.lats.length V.cl) from (hM.blk.kp hu (fun h => h)).cell (i := 2) rfl)
  have HMi := Lib.hid (fun u (hu : Kp (fun _ => False) w u) => show u.cell? ⟨p, 1, none⟩ = some (.slice V.ai C.ins.length V.ci) from (hM.blk.kp hu (fun h => h)).cell (i := 1) rfl)
  have HPl := Lib.hid (fun u => show Calls Tryz.prog 40 #[.int .i64 C.lats.length] u (fun e w' => e = .returned (.int .i64 (nS C : Int)) ∧ u = w') from ref17_power C.lats.length (by omega) u)
  have HPi := Lib.hid (fun u => ref17_power C.ins.length (by omega) u)
  have HBl := Lib.hid (fun u t (ht : t < nS C) => show Calls Tryz.prog 41 #[.int .i64 t, .int .i64 C.lats.length] u (fun e w' => ∃ sa sc, e = .returned (.slice sa C.lats.length sc) ∧ Own w' u.heap.size 4 (.slice sa C.lats.length sc) (bv (stN C t)) ∧ Kp (fun _ => False) u w') from (ref17_bits t C.lats.length (Nat.le_trans (Nat.le_of_lt ht) (Nat.le_trans hn9 (by decide))) (Nat.le_trans hl (by decide)) u).mono (by
    rintro e w' ⟨v, rfl, hO, hK⟩
    obtain ⟨sa, sc, e, -⟩ := hO.form
    rw [bv_length, bitsP_len] at e
    subst e
    exact ⟨sa, sc, rfl, hO, hK⟩))
  have HBi := Lib.hid (fun u (i : Nat) (hi' : i < 2 ^ C.ins.length) => show Calls Tryz.prog 41 #[.int .i64 i, .int .i64 C.ins.length] u (fun e w' => ∃ ia ic, e = .returned (.slice ia C.ins.length ic) ∧ Own w' u.heap.size 4 (.slice ia C.ins.length ic) (bv (inN2 C i)) ∧ Kp (fun _ => False) u w') from (ref17_bits i C.ins.length (Nat.le_trans (Nat.le_of_lt hi') (Nat.le_trans hmx9' (by decide))) (Nat.le_trans hi (by decide)) u).mono (by
    rintro e w' ⟨v, rfl, hO, hK⟩
    obtain ⟨sa, sc, e, -⟩ := hO.form
    rw [bv_length, bitsP_len] at e
    subst e
    exact ⟨sa, sc, rfl, hO, hK⟩))
  have HSt := Lib.hid (fun u (hu : Kp (fun _ => False) w u) t sa sc (h1 : BS u sa C.lats.length (stN C t)) => show Calls Tryz.prog 42 #[.pointer (some ⟨p, 0, none⟩), .slice sa C.lats.length sc] u (fun e w' => e = .returned (.bool (stS C t)) ∧ u = w') from ref17_Starts V C p a4 a5 c4 c5 sa _ sc _ u (hM.kp hu) hf h1)
  have HHo := Lib.hid (fun u (hu : Kp (fun _ => False) w u) t k sa sc ia ic (h1 : BS u sa C.lats.length (stN C t)) (h2 : BS u ia C.ins.length (inN2 C k)) => show Calls Tryz.prog 43 #[.pointer (some ⟨p, 0, none⟩), .slice sa C.lats.length sc, .slice ia C.ins.length ic] u (fun e w' => e = .returned (.bool (hldN C t k)) ∧ Kp (fun _ => False) u w') from ref17_Holds V C p a4 a5 c4 c5 sa _ sc ia _ ic _ _ u (hM.kp hu) hf hg h1 h2)
  have HBa := Lib.hid (fun u (hu : Kp (fun _ => False) w u) t k sa sc ia ic (h1 : BS u sa C.lats.length (stN C t)) (h2 : BS u ia C.ins.length (inN2 C k)) => show Calls Tryz.prog 44 #[.pointer (some ⟨p, 0, none⟩), .slice sa C.lats.length sc, .slice ia C.ins.length ic, .int .i64 pr] u (fun e w' => e = .returned (.bool (bdN C pr t k)) ∧ Kp (fun _ => False) u w') from ref17_Bad V C p a4 a5 c4 c5 sa _ sc ia _ ic _ _ pr u (hM.kp hu) hf hg h1 h2)
  have HNx := Lib.hid (fun u (hu : Kp (fun _ => False) w u) t k sa sc ia ic (h1 : BS u sa C.lats.length (stN C t)) (h2 : BS u ia C.ins.length (inN2 C k)) => show Calls Tryz.prog 46 #[.pointer (some ⟨p, 0, none⟩), .slice sa C.lats.length sc, .slice ia C.ins.length ic] u (fun e w' => ∃ na nc, e = .returned (.slice na C.lats.length nc) ∧ RowAt w' na (bv (nextM C (stN C t) (inN2 C k))) ∧ Kp (fun _ => False) u w') from (ref17_Next V C p a4 a5 c4 c5 sa _ sc ia _ ic _ _ u (hM.kp hu) hf hg h1 h2).mono (by
    rintro e w' ⟨v, rfl, hO, hK⟩
    obtain ⟨na, nc, e, -, -, -, hr⟩ := hO.form
    rw [bv_length, nextM_len] at e
    subst e
    exact ⟨na, nc, rfl, hr, hK⟩))
  have HNm := Lib.hid (fun (u : World) t k a c (hr : RowAt u a (bv (nextM C (stN C t) (inN2 C k)))) => show Calls Tryz.prog 45 #[.slice a C.lats.length c] u (fun e w' => e = .returned (.int .i64 (nxtN C t k : Int)) ∧ u = w') from ref17_number a _ c _ u hr (nextM_len C _ _) (by omega))
  have HBs := Lib.hid (fun (u : World) (B : Nat) sa sc t (h : Own u B 4 (.slice sa C.lats.length sc) (bv (stN C t))) => own_BS h (stN_len C t) (Nat.le_trans hl (by decide)))
  have HIs := Lib.hid (fun (u : World) (B : Nat) sa sc t (h : Own u B 4 (.slice sa C.ins.length sc) (bv (inN2 C t))) => own_BS h (inN2_len C t) (Nat.le_trans hi (by decide)))
  have HNp := Lib.hid (fun t k h => nxK_put (C := C) (t := t) (k := k) h)
  have HNs := Lib.hid (fun t k h => nxK_skip (C := C) (t := t) (k := k) h)
  have HNl := Lib.hid (fun t k => nxK_len C t k)
  have HDp := Lib.hid (fun t k h => bdK_put (C := C) (pr := pr) (t := t) (k := k) h)
  have HDs := Lib.hid (fun t k h => bdK_skip (C := C) (pr := pr) (t := t) (k := k) h)
  have HDa := Lib.hid (fun t => bdK_all C pr t)
  have HNa := Lib.hid (fun t => show nxK C t (2 ^ C.ins.length) = nxL C t from rfl)
  have HN0 := Lib.hid (fun t => show nxK C t 0 = [] from rfl)
  have HD0 := Lib.hid (fun t => show bdK C pr t 0 = false from rfl)
  obtain ⟨n, hn⟩ : ∃ n, nS C = n := ⟨_, rfl⟩
  simp only [hn] at HPl HBl
  rw [hn] at hn9 ⊢
  obtain ⟨mx, hmx⟩ : ∃ mx, 2 ^ C.ins.length = mx := ⟨_, rfl⟩
  simp only [hmx] at HPi HBi HDa HNa
  have hmx9 : mx ≤ 256 := by rw [← hmx]; exact hmx9'
  obtain ⟨nl, hnl⟩ : ∃ nl, C.lats.length = nl := ⟨_, rfl⟩
  simp only [hnl] at HMl HPl HBl HSt HHo HBa HNx HNm HBs
  obtain ⟨ni, hni⟩ : ∃ ni, C.ins.length = ni := ⟨_, rfl⟩
  simp only [hni] at HMi HPi HBi HHo HBa HNx HIs
  rw [hnl] at hl
  rw [hni] at hi
  obtain ⟨sS, hsS⟩ : ∃ f, stS C = f := ⟨_, rfl⟩
  simp only [hsS] at HSt
  obtain ⟨sB, hsB⟩ : ∃ f, bdS C pr = f := ⟨_, rfl⟩
  simp only [hsB] at HDa
  obtain ⟨sN, hsN⟩ : ∃ f, nxL C = f := ⟨_, rfl⟩
  simp only [hsN] at HNa
  rw [hsS, hsB, hsN]
  obtain ⟨H, hH⟩ : ∃ f, hldN C = f := ⟨_, rfl⟩
  simp only [hH] at HHo HNp HNs HDp HDs
  obtain ⟨X, hX⟩ : ∃ f, nxtN C = f := ⟨_, rfl⟩
  simp only [hX] at HNm HNp
  obtain ⟨Bd, hBd⟩ : ∃ f, bdN C pr = f := ⟨_, rfl⟩
  simp only [hBd] at HBa HDp
  obtain ⟨NK, hNK⟩ : ∃ f, nxK C = f := ⟨_, rfl⟩
  simp only [hNK] at HNp HNs HNl HNa HN0
  obtain ⟨BK, hBK⟩ : ∃ f, bdK C pr = f := ⟨_, rfl⟩
  simp only [hBK] at HDp HDs HDa HD0
  obtain ⟨wz, hwz⟩ : ∃ wz : World, wz = w.alloc (.cells #[.slice none 0 0, .slice none 0 0, .slice none 0 0] 41) := ⟨_, rfl⟩
  have HK0 := Lib.hid (show Kp (fun _ => False) w wz by rw [hwz]; exact (Kp.refl _ w).alloc _)
  obtain ⟨r4, hr4⟩ : ∃ r4, w.heap.size = r4 := ⟨_, rfl⟩
  have HRes := Lib.hid (show Blk wz r4 #[.slice none 0 0, .slice none 0 0, .slice none 0 0] 41 by rw [hwz, ← hr4]; exact Blk.new _ _ _)
  have HR4 := Lib.hid hr4
  have HZ := Lib.hid hwz
  clear hM hf hg hn hmx hmx9' hnl hni hsS hsB hsN hH hX hBd hNK hBK hwz
  go_enter Tryz.func11, Tryz.ntmps11
  go_upto_region 1 with fail
  rw [← HZ.out]
  clear HZ hr4
  refine wp_region_looseD (p := upTo 14) (V := atV [EqV ((.pointer (some ⟨p, 0, none⟩))), EqV (.pointer (some ⟨p, 0, none⟩)), EqV (.pointer (some ⟨p, 0, none⟩)), EqV (.pointer (some ⟨p, 2, none⟩)), EqV (.slice V.al nl V.cl), EqV (.int .i64 (nl : Int)), EqV (.int .i64 (n : Int)), EqV ((.pointer (some ⟨p, 0, none⟩))), EqV (.pointer (some ⟨p, 0, none⟩)), EqV (.pointer (some ⟨p, 0, none⟩)), EqV (.pointer (some ⟨p, 1, none⟩)), EqV (.slice V.ai ni V.ci), EqV (.int .i64 (ni : Int)), EqV (.int .i64 (mx : Int))]) (LP := #[true, true, true, true, true, true, true, true, true, true, true, true, true, true, false, false]) (K := 2) (by kernel_rfl) (by kernel_rfl) (atV_st ?hstW1) ?hstepW1 (by kernel_rfl) ?hLPW1 (by kernel_rfl) ?hendW1
  case hstW1 =>
    intro W h
    simp only [List.mem_cons, List.not_mem_nil, or_false] at h
    rcases h with rfl | rfl | rfl | rfl | rfl | rfl | rfl | rfl | rfl | rfl | rfl | rfl | rfl | rfl <;> first | exact EqV.st _ | exact LitC.st _ _ _ _ | exact Made3.st _ _ | exact NewC.st _ _ _
  case hLPW1 => exact upTo_spec (by kernel_rfl)
  case hstepW1 =>
    intro i o ho hp a u hk hoff hdep
    have e0 : a.tmps[0]?.getD undef = (.pointer (some ⟨p, 0, none⟩)) := slot_at (hoff 0 (noDst_spec (by kernel_rfl)))
    clear hoff
    match i, ho with
    | 0, ho =>
      obtain rfl := Option.some.inj ho
      refine lw_value (v := (.pointer (some ⟨p, 0, none⟩))) (u' := u) ?_ (Kp.refl _ _) rfl
      go_simp
    | 1, ho =>
      obtain rfl := Option.some.inj ho
      have e12 : a.tmps[12]?.getD undef = (.pointer (some ⟨p, 0, none⟩)) := slot_at (hdep ⟨0, .data⟩ (by simp) rfl _ 12 rfl rfl)
      refine lw_value (v := .pointer (some ⟨p, 0, none⟩)) (u' := u) ?_ (Kp.refl _ _) rfl
      go_simp
    | 2, ho =>
      obtain rfl := Option.some.inj ho
      have e13 : a.tmps[13]?.getD undef = .pointer (some ⟨p, 0, none⟩) := slot_at (hdep ⟨1, .data⟩ (by simp) rfl _ 13 rfl rfl)
      refine lw_value (v := .pointer (some ⟨p, 0, none⟩)) (u' := u) ?_ (Kp.refl _ _) rfl
      go_simp
    | 3, ho =>
      obtain rfl := Option.some.inj ho
      have e14 : a.tmps[14]?.getD undef = .pointer (some ⟨p, 0, none⟩) := slot_at (hdep ⟨2, .data⟩ (by simp) rfl _ 14 rfl rfl)
      refine lw_value (v := .pointer (some ⟨p, 2, none⟩)) (u' := u) ?_ (Kp.refl _ _) rfl
      go_simp
    | 4, ho =>
      obtain rfl := Option.some.inj ho
      have e15 : a.tmps[15]?.getD undef = .pointer (some ⟨p, 2, none⟩) := slot_at (hdep ⟨3, .data⟩ (by simp) rfl _ 15 rfl rfl)
      have c1 := HMl.out u (HK0.out.trans hk (fun _ _ h => h))
      refine lw_value (v := .slice V.al nl V.cl) (u' := u) ?_ (Kp.refl _ _) rfl
      go_simp
    | 5, ho =>
      obtain rfl := Option.some.inj ho
      have e16 : a.tmps[16]?.getD undef = .slice V.al nl V.cl := slot_at (hdep ⟨4, .data⟩ (by simp) rfl _ 16 rfl rfl)
      refine lw_value (v := .int .i64 (nl : Int)) (u' := u) ?_ (Kp.refl _ _) rfl
      go_simp
    | 6, ho =>
      obtain rfl := Option.some.inj ho
      have e17 : a.tmps[17]?.getD undef = .int .i64 (nl : Int) := slot_at (hdep ⟨5, .data⟩ (by simp) rfl _ 17 rfl rfl)
      refine lw_call (f := 40) (args := #[.int .i64 (nl : Int)]) ?_ ?_
      · go_simp
      · exact (HPl.out u).mono (by
          rintro e u' ⟨rfl, rfl⟩
          exact ⟨_, rfl, Kp.refl _ _, rfl⟩)
    | 7, ho =>
      obtain rfl := Option.some.inj ho
      refine lw_value (v := (.pointer (some ⟨p, 0, none⟩))) (u' := u) ?_ (Kp.refl _ _) rfl
      go_simp
    | 8, ho =>
      obtain rfl := Option.some.inj ho
      have e19 : a.tmps[19]?.getD undef = (.pointer (some ⟨p, 0, none⟩)) := slot_at (hdep ⟨7, .data⟩ (by simp) rfl _ 19 rfl rfl)
      refine lw_value (v := .pointer (some ⟨p, 0, none⟩)) (u' := u) ?_ (Kp.refl _ _) rfl
      go_simp
    | 9, ho =>
      obtain rfl := Option.some.inj ho
      have e20 : a.tmps[20]?.getD undef = .pointer (some ⟨p, 0, none⟩) := slot_at (hdep ⟨8, .data⟩ (by simp) rfl _ 20 rfl rfl)
      refine lw_value (v := .pointer (some ⟨p, 0, none⟩)) (u' := u) ?_ (Kp.refl _ _) rfl
      go_simp
    | 10, ho =>
      obtain rfl := Option.some.inj ho
      have e21 : a.tmps[21]?.getD undef = .pointer (some ⟨p, 0, none⟩) := slot_at (hdep ⟨9, .data⟩ (by simp) rfl _ 21 rfl rfl)
      refine lw_value (v := .pointer (some ⟨p, 1, none⟩)) (u' := u) ?_ (Kp.refl _ _) rfl
      go_simp
    | 11, ho =>
      obtain rfl := Option.some.inj ho
      have e22 : a.tmps[22]?.getD undef = .pointer (some ⟨p, 1, none⟩) := slot_at (hdep ⟨10, .data⟩ (by simp) rfl _ 22 rfl rfl)
      have c1 := HMi.out u (HK0.out.trans hk (fun _ _ h => h))
      refine lw_value (v := .slice V.ai ni V.ci) (u' := u) ?_ (Kp.refl _ _) rfl
      go_simp
    | 12, ho =>
      obtain rfl := Option.some.inj ho
      have e23 : a.tmps[23]?.getD undef = .slice V.ai ni V.ci := slot_at (hdep ⟨11, .data⟩ (by simp) rfl _ 23 rfl rfl)
      refine lw_value (v := .int .i64 (ni : Int)) (u' := u) ?_ (Kp.refl _ _) rfl
      go_simp
    | 13, ho =>
      obtain rfl := Option.some.inj ho
      have e24 : a.tmps[24]?.getD undef = .int .i64 (ni : Int) := slot_at (hdep ⟨12, .data⟩ (by simp) rfl _ 24 rfl rfl)
      refine lw_call (f := 40) (args := #[.int .i64 (ni : Int)]) ?_ ?_
      · go_simp
      · exact (HPi.out u).mono (by
          rintro e u' ⟨rfl, rfl⟩
          exact ⟨_, rfl, Kp.refl _ _, rfl⟩)
    | n + 14, _ => exact absurd hp (by simp [upTo])
  case hendW1 =>
    intro a u hI
    have hsz : a.tmps.size = 104 := hI.size
    have hdf : a.defers = [] := hI.defers
    have f0 := hI.o 0 (by kernel_rfl)
    have f1 := hI.o 1 (by kernel_rfl)
    have f2 := hI.o 2 (by kernel_rfl)
    have f3 := hI.o 3 (by kernel_rfl)
    have f4 := hI.o 4 (by kernel_rfl)
    have f5 := hI.o 5 (by kernel_rfl)
    have f6 := hI.o 6 (by kernel_rfl)
    have f7 := hI.o 7 (by kernel_rfl)
    have f8 := hI.o 8 (by kernel_rfl)
    have f9 := hI.o 9 (by kernel_rfl)
    have f10 := hI.o 10 (by kernel_rfl)
    have f11 := hI.o 11 (by kernel_rfl)
    have f26 := hI.o 26 (by kernel_rfl)
    have f27 := hI.o 27 (by kernel_rfl)
    have f28 := hI.o 28 (by kernel_rfl)
    have f29 := hI.o 29 (by kernel_rfl)
    have f30 := hI.o 30 (by kernel_rfl)
    have f31 := hI.o 31 (by kernel_rfl)
    have f32 := hI.o 32 (by kernel_rfl)
    have f33 := hI.o 33 (by kernel_rfl)
    have f34 := hI.o 34 (by kernel_rfl)
    have f35 := hI.o 35 (by kernel_rfl)
    have f36 := hI.o 36 (by kernel_rfl)
    have f37 := hI.o 37 (by kernel_rfl)
    have f38 := hI.o 38 (by kernel_rfl)
    have f39 := hI.o 39 (by kernel_rfl)
    have f40 := hI.o 40 (by kernel_rfl)
    have f41 := hI.o 41 (by kernel_rfl)
    have f42 := hI.o 42 (by kernel_rfl)
    have f43 := hI.o 43 (by kernel_rfl)
    have f44 := hI.o 44 (by kernel_rfl)
    have f45 := hI.o 45 (by kernel_rfl)
    have f46 := hI.o 46 (by kernel_rfl)
    have f47 := hI.o 47 (by kernel_rfl)
    have f48 := hI.o 48 (by kernel_rfl)
    have f49 := hI.o 49 (by kernel_rfl)
    have f50 := hI.o 50 (by kernel_rfl)
    have f51 := hI.o 51 (by kernel_rfl)
    have f52 := hI.o 52 (by kernel_rfl)
    have f53 := hI.o 53 (by kernel_rfl)
    have f54 := hI.o 54 (by kernel_rfl)
    have f55 := hI.o 55 (by kernel_rfl)
    have f56 := hI.o 56 (by kernel_rfl)
    have f57 := hI.o 57 (by kernel_rfl)
    have f58 := hI.o 58 (by kernel_rfl)
    have f59 := hI.o 59 (by kernel_rfl)
    have f60 := hI.o 60 (by kernel_rfl)
    have f61 := hI.o 61 (by kernel_rfl)
    have f62 := hI.o 62 (by kernel_rfl)
    have f63 := hI.o 63 (by kernel_rfl)
    have f64 := hI.o 64 (by kernel_rfl)
    have f65 := hI.o 65 (by kernel_rfl)
    have f66 := hI.o 66 (by kernel_rfl)
    have f67 := hI.o 67 (by kernel_rfl)
    have f68 := hI.o 68 (by kernel_rfl)
    have f69 := hI.o 69 (by kernel_rfl)
    have f70 := hI.o 70 (by kernel_rfl)
    have f71 := hI.o 71 (by kernel_rfl)
    have f72 := hI.o 72 (by kernel_rfl)
    have f73 := hI.o 73 (by kernel_rfl)
    have f74 := hI.o 74 (by kernel_rfl)
    have f75 := hI.o 75 (by kernel_rfl)
    have f76 := hI.o 76 (by kernel_rfl)
    have f77 := hI.o 77 (by kernel_rfl)
    have f78 := hI.o 78 (by kernel_rfl)
    have f79 := hI.o 79 (by kernel_rfl)
    have f80 := hI.o 80 (by kernel_rfl)
    have f81 := hI.o 81 (by kernel_rfl)
    have f82 := hI.o 82 (by kernel_rfl)
    have f83 := hI.o 83 (by kernel_rfl)
    have f84 := hI.o 84 (by kernel_rfl)
    have f85 := hI.o 85 (by kernel_rfl)
    have f86 := hI.o 86 (by kernel_rfl)
    have f87 := hI.o 87 (by kernel_rfl)
    have f88 := hI.o 88 (by kernel_rfl)
    have f89 := hI.o 89 (by kernel_rfl)
    have f90 := hI.o 90 (by kernel_rfl)
    have f91 := hI.o 91 (by kernel_rfl)
    have f92 := hI.o 92 (by kernel_rfl)
    have f93 := hI.o 93 (by kernel_rfl)
    have f94 := hI.o 94 (by kernel_rfl)
    have f95 := hI.o 95 (by kernel_rfl)
    have f96 := hI.o 96 (by kernel_rfl)
    have f97 := hI.o 97 (by kernel_rfl)
    have f98 := hI.o 98 (by kernel_rfl)
    have f99 := hI.o 99 (by kernel_rfl)
    have f100 := hI.o 100 (by kernel_rfl)
    have f101 := hI.o 101 (by kernel_rfl)
    have f102 := hI.o 102 (by kernel_rfl)
    have f103 := hI.o 103 (by kernel_rfl)
    have f12 : a.tmps.getD 12 undef = (.pointer (some ⟨p, 0, none⟩)) := hI.val 0 _ 12 rfl rfl rfl
    have f13 : a.tmps.getD 13 undef = .pointer (some ⟨p, 0, none⟩) := hI.val 1 _ 13 rfl rfl rfl
    have f14 : a.tmps.getD 14 undef = .pointer (some ⟨p, 0, none⟩) := hI.val 2 _ 14 rfl rfl rfl
    have f15 : a.tmps.getD 15 undef = .pointer (some ⟨p, 2, none⟩) := hI.val 3 _ 15 rfl rfl rfl
    have f16 : a.tmps.getD 16 undef = .slice V.al nl V.cl := hI.val 4 _ 16 rfl rfl rfl
    have f17 : a.tmps.getD 17 undef = .int .i64 (nl : Int) := hI.val 5 _ 17 rfl rfl rfl
    have f18 : a.tmps.getD 18 undef = .int .i64 (n : Int) := hI.val 6 _ 18 rfl rfl rfl
    have f19 : a.tmps.getD 19 undef = (.pointer (some ⟨p, 0, none⟩)) := hI.val 7 _ 19 rfl rfl rfl
    have f20 : a.tmps.getD 20 undef = .pointer (some ⟨p, 0, none⟩) := hI.val 8 _ 20 rfl rfl rfl
    have f21 : a.tmps.getD 21 undef = .pointer (some ⟨p, 0, none⟩) := hI.val 9 _ 21 rfl rfl rfl
    have f22 : a.tmps.getD 22 undef = .pointer (some ⟨p, 1, none⟩) := hI.val 10 _ 22 rfl rfl rfl
    have f23 : a.tmps.getD 23 undef = .slice V.ai ni V.ci := hI.val 11 _ 23 rfl rfl rfl
    have f24 : a.tmps.getD 24 undef = .int .i64 (ni : Int) := hI.val 12 _ 24 rfl rfl rfl
    have f25 : a.tmps.getD 25 undef = .int .i64 (mx : Int) := hI.val 13 _ 25 rfl rfl rfl
    have ha := act_list104 a hsz
    rw [hdf, f0, f1, f2, f3, f4, f5, f6, f7, f8, f9, f10, f11, f12, f13, f14, f15, f16, f17, f18, f19, f20, f21, f22, f23, f24, f25, f26, f27, f28, f29, f30, f31, f32, f33, f34, f35, f36, f37, f38, f39, f40, f41, f42, f43, f44, f45, f46, f47, f48, f49, f50, f51, f52, f53, f54, f55, f56, f57, f58, f59, f60, f61, f62, f63, f64, f65, f66, f67, f68, f69, f70, f71, f72, f73, f74, f75, f76, f77, f78, f79, f80, f81, f82, f83, f84, f85, f86, f87, f88, f89, f90, f91, f92, f93, f94, f95, f96, f97, f98, f99, f100, f101, f102, f103] at ha
    have hku := hI.kp
    clear hI hsz hdf f0 f1 f2 f3 f4 f5 f6 f7 f8 f9 f10 f11 f12 f13 f14 f15 f16 f17 f18 f19 f20 f21 f22 f23 f24 f25 f26 f27 f28 f29 f30 f31 f32 f33 f34 f35 f36 f37 f38 f39 f40 f41 f42 f43 f44 f45 f46 f47 f48 f49 f50 f51 f52 f53 f54 f55 f56 f57 f58 f59 f60 f61 f62 f63 f64 f65 f66 f67 f68 f69 f70 f71 f72 f73 f74 f75 f76 f77 f78 f79 f80 f81 f82 f83 f84 f85 f86 f87 f88 f89 f90 f91 f92 f93 f94 f95 f96 f97 f98 f99 f100 f101 f102 f103 
    subst ha
    refine wpAny_tail 14 rfl (by kernel_rfl) ?_
    simp only [List.drop_succ_cons, List.drop_zero]
    simp only [Array.getD_eq_getD_getElem?, List.getElem?_toArray, List.getElem?_cons_zero, List.getElem?_cons_succ, Option.getD_some]
    have HKu := Lib.hid (HK0.out.trans hku (fun _ _ h => h))
    have HRu := Lib.hid (HRes.out.kp hku (fun h => h))
    clear hku
    obtain ⟨w1, rfl⟩ : ∃ w1 : World, w1 = u := ⟨_, rfl⟩
    go_upto_region 2 with fail
    refine wp_region_looseU (p := upTo 8) (V := atV [EqV ((.int .i64 (n : Int))), (LitC w1.heap.size (madeCells #[.bool false] n) n 4), EqV ((.int .i64 (n : Int))), (LitC w1.heap.size (madeCells #[.bool false] n) n 4), EqV ((.int .i64 (n : Int))), (LitC w1.heap.size (madeCells #[.slice none 0 0] n) n 22), (Made3 w1.heap.size n), (NewC w1.heap.size #[.slice none 0 0, .slice none 0 0, .slice none 0 0] 41)]) (LP := #[true, true, true, true, true, true, true, true, false]) (K := 1) (by kernel_rfl) (by kernel_rfl) (fun i => decide (i ∈ [1, 3])) ?hMW2 (atV_st ?hstW2) ?hstepW2 (by kernel_rfl) ?hLPW2 (by kernel_rfl) ?hendW2
    case hstW2 =>
      intro W h
      simp only [List.mem_cons, List.not_mem_nil, or_false] at h
      rcases h with rfl | rfl | rfl | rfl | rfl | rfl | rfl | rfl <;> first | exact EqV.st _ | exact LitC.st _ _ _ _ | exact Made3.st _ _ | exact NewC.st _ _ _
    case hLPW2 => exact upTo_spec (by kernel_rfl)
    case hstepW2 =>
      intro i o ho hp a u hk hoff hdep hpair
      have e5 : a.tmps[5]?.getD undef = (.int .i64 (n : Int)) := slot_at (hoff 5 (noDst_spec (by kernel_rfl)))
      clear hoff
      match i, ho with
      | 0, ho =>
        obtain rfl := Option.some.inj ho
        refine lwU_off rfl ?_
        refine lw_value (v := (.int .i64 (n : Int))) (u' := u) ?_ (Kp.refl _ _) rfl
        go_simp
      | 1, ho =>
        obtain rfl := Option.some.inj ho
        have e26 : a.tmps[26]?.getD undef = (.int .i64 (n : Int)) := slot_at (hdep ⟨0, .data⟩ (by simp) rfl _ 26 rfl rfl)
        refine lwU_on ?_
        have c1 := make_bools n hn9 u
        refine lw_value (v := .slice (some ⟨u.heap.size, 0, none⟩) n n) (u' := u.alloc (.cells (madeCells #[.bool false] n) 4)) ?_ ((Kp.refl _ _).alloc _) ⟨⟨_, rfl, Blk.new _ _ _, hk.size⟩, fun g e => by simp [Value.ownBlock] at e; omega⟩
        go_simp
      | 2, ho =>
        obtain rfl := Option.some.inj ho
        refine lwU_off rfl ?_
        refine lw_value (v := (.int .i64 (n : Int))) (u' := u) ?_ (Kp.refl _ _) rfl
        go_simp
      | 3, ho =>
        obtain rfl := Option.some.inj ho
        have e28 : a.tmps[28]?.getD undef = (.int .i64 (n : Int)) := slot_at (hdep ⟨2, .data⟩ (by simp) rfl _ 28 rfl rfl)
        refine lwU_on ?_
        have c1 := make_bools n hn9 u
        refine lw_value (v := .slice (some ⟨u.heap.size, 0, none⟩) n n) (u' := u.alloc (.cells (madeCells #[.bool false] n) 4)) ?_ ((Kp.refl _ _).alloc _) ⟨⟨_, rfl, Blk.new _ _ _, hk.size⟩, fun g e => by simp [Value.ownBlock] at e; omega⟩
        go_simp
      | 4, ho =>
        obtain rfl := Option.some.inj ho
        refine lwU_off rfl ?_
        refine lw_value (v := (.int .i64 (n : Int))) (u' := u) ?_ (Kp.refl _ _) rfl
        go_simp
      | 5, ho =>
        obtain rfl := Option.some.inj ho
        have e30 : a.tmps[30]?.getD undef = (.int .i64 (n : Int)) := slot_at (hdep ⟨4, .data⟩ (by simp) rfl _ 30 rfl rfl)
        refine lwU_off rfl ?_
        have c1 := make_rows n hn9 u
        refine lw_value (v := .slice (some ⟨u.heap.size, 0, none⟩) n n) (u' := u.alloc (.cells (madeCells #[.slice none 0 0] n) 22)) ?_ ((Kp.refl _ _).alloc _) ⟨_, rfl, Blk.new _ _ _, hk.size⟩
        go_simp
      | 6, ho =>
        obtain rfl := Option.some.inj ho
        refine lwU_off rfl ?_
        have g1 := hdep ⟨1, .data⟩ (by simp) rfl _ 27 rfl rfl
        have g3 := hdep ⟨3, .data⟩ (by simp) rfl _ 29 rfl rfl
        have g5 := hdep ⟨5, .data⟩ (by simp) rfl _ 31 rfl rfl
        have hp := hpair 1 3 _ _ 27 29 rfl rfl (by decide) ⟨⟨1, .data⟩, by simp, rfl, rfl⟩ ⟨⟨3, .data⟩, by simp, rfl, rfl⟩ rfl rfl rfl rfl
        obtain ⟨ga, ea, ba, la⟩ := g1
        obtain ⟨gb, eb, bb, lb⟩ := g3
        obtain ⟨gd, ed, bd, ld⟩ := g5
        rw [ea, eb] at hp
        have e27 := slot_at ea
        have e29 := slot_at eb
        have e31 := slot_at ed
        refine lw_value (v := .agg #[.slice (some ⟨ga, 0, none⟩) n n, .slice (some ⟨gb, 0, none⟩) n n, .slice (some ⟨gd, 0, none⟩) n n]) (u' := u) ?_ (Kp.refl _ _) ⟨ga, gb, gd, rfl, ba, bb, bd, fun q => hp (by rw [q]), la, lb, ld⟩
        clear hp ba bb bd ea eb ed
        go_simp
      | 7, ho =>
        obtain rfl := Option.some.inj ho
        refine lwU_off rfl ?_
        refine lw_value (v := .pointer (some ⟨u.heap.size, 0, none⟩)) (u' := u.alloc (.cells #[.slice none 0 0, .slice none 0 0, .slice none 0 0] 41)) ?_ ((Kp.refl _ _).alloc _) ⟨_, rfl, Blk.new _ _ _, hk.size⟩
        go_simp
      | n + 8, _ => exact absurd hp (by simp [upTo])
    case hMW2 =>
      intro j u v hj h
      have hj2 : j = 1 ∨ j = 3 := by simpa using hj
      rcases hj2 with rfl | rfl <;> (obtain ⟨g, rfl, hb, _⟩ := h; exact ⟨g, rfl, hb.lt⟩)
    case hendW2 =>
      intro a u hI _
      have hsz : a.tmps.size = 104 := hI.size
      have hdf : a.defers = [] := hI.defers
      have f0 := hI.o 0 (by kernel_rfl)
      have f1 := hI.o 1 (by kernel_rfl)
      have f2 := hI.o 2 (by kernel_rfl)
      have f3 := hI.o 3 (by kernel_rfl)
      have f4 := hI.o 4 (by kernel_rfl)
      have f5 := hI.o 5 (by kernel_rfl)
      have f6 := hI.o 6 (by kernel_rfl)
      have f8 := hI.o 8 (by kernel_rfl)
      have f9 := hI.o 9 (by kernel_rfl)
      have f10 := hI.o 10 (by kernel_rfl)
      have f11 := hI.o 11 (by kernel_rfl)
      have f12 := hI.o 12 (by kernel_rfl)
      have f13 := hI.o 13 (by kernel_rfl)
      have f14 := hI.o 14 (by kernel_rfl)
      have f15 := hI.o 15 (by kernel_rfl)
      have f16 := hI.o 16 (by kernel_rfl)
      have f17 := hI.o 17 (by kernel_rfl)
      have f18 := hI.o 18 (by kernel_rfl)
      have f19 := hI.o 19 (by kernel_rfl)
      have f20 := hI.o 20 (by kernel_rfl)
      have f21 := hI.o 21 (by kernel_rfl)
      have f22 := hI.o 22 (by kernel_rfl)
      have f23 := hI.o 23 (by kernel_rfl)
      have f24 := hI.o 24 (by kernel_rfl)
      have f25 := hI.o 25 (by kernel_rfl)
      have f33 := hI.o 33 (by kernel_rfl)
      have f34 := hI.o 34 (by kernel_rfl)
      have f35 := hI.o 35 (by kernel_rfl)
      have f36 := hI.o 36 (by kernel_rfl)
      have f37 := hI.o 37 (by kernel_rfl)
      have f38 := hI.o 38 (by kernel_rfl)
      have f39 := hI.o 39 (by kernel_rfl)
      have f40 := hI.o 40 (by kernel_rfl)
      have f41 := hI.o 41 (by kernel_rfl)
      have f42 := hI.o 42 (by kernel_rfl)
      have f43 := hI.o 43 (by kernel_rfl)
      have f44 := hI.o 44 (by kernel_rfl)
      have f45 := hI.o 45 (by kernel_rfl)
      have f46 := hI.o 46 (by kernel_rfl)
      have f47 := hI.o 47 (by kernel_rfl)
      have f48 := hI.o 48 (by kernel_rfl)
      have f49 := hI.o 49 (by kernel_rfl)
      have f50 := hI.o 50 (by kernel_rfl)
      have f51 := hI.o 51 (by kernel_rfl)
      have f52 := hI.o 52 (by kernel_rfl)
      have f53 := hI.o 53 (by kernel_rfl)
      have f54 := hI.o 54 (by kernel_rfl)
      have f55 := hI.o 55 (by kernel_rfl)
      have f56 := hI.o 56 (by kernel_rfl)
      have f57 := hI.o 57 (by kernel_rfl)
      have f58 := hI.o 58 (by kernel_rfl)
      have f59 := hI.o 59 (by kernel_rfl)
      have f60 := hI.o 60 (by kernel_rfl)
      have f61 := hI.o 61 (by kernel_rfl)
      have f62 := hI.o 62 (by kernel_rfl)
      have f63 := hI.o 63 (by kernel_rfl)
      have f64 := hI.o 64 (by kernel_rfl)
      have f65 := hI.o 65 (by kernel_rfl)
      have f66 := hI.o 66 (by kernel_rfl)
      have f67 := hI.o 67 (by kernel_rfl)
      have f68 := hI.o 68 (by kernel_rfl)
      have f69 := hI.o 69 (by kernel_rfl)
      have f70 := hI.o 70 (by kernel_rfl)
      have f71 := hI.o 71 (by kernel_rfl)
      have f72 := hI.o 72 (by kernel_rfl)
      have f73 := hI.o 73 (by kernel_rfl)
      have f74 := hI.o 74 (by kernel_rfl)
      have f75 := hI.o 75 (by kernel_rfl)
      have f76 := hI.o 76 (by kernel_rfl)
      have f77 := hI.o 77 (by kernel_rfl)
      have f78 := hI.o 78 (by kernel_rfl)
      have f79 := hI.o 79 (by kernel_rfl)
      have f80 := hI.o 80 (by kernel_rfl)
      have f81 := hI.o 81 (by kernel_rfl)
      have f82 := hI.o 82 (by kernel_rfl)
      have f83 := hI.o 83 (by kernel_rfl)
      have f84 := hI.o 84 (by kernel_rfl)
      have f85 := hI.o 85 (by kernel_rfl)
      have f86 := hI.o 86 (by kernel_rfl)
      have f87 := hI.o 87 (by kernel_rfl)
      have f88 := hI.o 88 (by kernel_rfl)
      have f89 := hI.o 89 (by kernel_rfl)
      have f90 := hI.o 90 (by kernel_rfl)
      have f91 := hI.o 91 (by kernel_rfl)
      have f92 := hI.o 92 (by kernel_rfl)
      have f93 := hI.o 93 (by kernel_rfl)
      have f94 := hI.o 94 (by kernel_rfl)
      have f95 := hI.o 95 (by kernel_rfl)
      have f96 := hI.o 96 (by kernel_rfl)
      have f97 := hI.o 97 (by kernel_rfl)
      have f98 := hI.o 98 (by kernel_rfl)
      have f99 := hI.o 99 (by kernel_rfl)
      have f100 := hI.o 100 (by kernel_rfl)
      have f101 := hI.o 101 (by kernel_rfl)
      have f102 := hI.o 102 (by kernel_rfl)
      have f103 := hI.o 103 (by kernel_rfl)
      have g7 : ((NewC w1.heap.size #[.slice none 0 0, .slice none 0 0, .slice none 0 0] 41)) u (a.tmps.getD 7 undef) := hI.val 7 _ 7 rfl rfl rfl
      have f26 : a.tmps.getD 26 undef = (.int .i64 (n : Int)) := hI.val 0 _ 26 rfl rfl rfl
      have g27 : ((LitC w1.heap.size (madeCells #[.bool false] n) n 4)) u (a.tmps.getD 27 undef) := hI.val 1 _ 27 rfl rfl rfl
      have f28 : a.tmps.getD 28 undef = (.int .i64 (n : Int)) := hI.val 2 _ 28 rfl rfl rfl
      have g29 : ((LitC w1.heap.size (madeCells #[.bool false] n) n 4)) u (a.tmps.getD 29 undef) := hI.val 3 _ 29 rfl rfl rfl
      have f30 : a.tmps.getD 30 undef = (.int .i64 (n : Int)) := hI.val 4 _ 30 rfl rfl rfl
      have g31 : ((LitC w1.heap.size (madeCells #[.slice none 0 0] n) n 22)) u (a.tmps.getD 31 undef) := hI.val 5 _ 31 rfl rfl rfl
      have g32 : ((Made3 w1.heap.size n)) u (a.tmps.getD 32 undef) := hI.val 6 _ 32 rfl rfl rfl
      have ha := act_list104 a hsz
      rw [hdf, f0, f1, f2, f3, f4, f5, f6, f8, f9, f10, f11, f12, f13, f14, f15, f16, f17, f18, f19, f20, f21, f22, f23, f24, f25, f26, f28, f30, f33, f34, f35, f36, f37, f38, f39, f40, f41, f42, f43, f44, f45, f46, f47, f48, f49, f50, f51, f52, f53, f54, f55, f56, f57, f58, f59, f60, f61, f62, f63, f64, f65, f66, f67, f68, f69, f70, f71, f72, f73, f74, f75, f76, f77, f78, f79, f80, f81, f82, f83, f84, f85, f86, f87, f88, f89, f90, f91, f92, f93, f94, f95, f96, f97, f98, f99, f100, f101, f102, f103] at ha
      obtain ⟨x7, hx7⟩ : ∃ x, a.tmps.getD 7 undef = x := ⟨_, rfl⟩
      obtain ⟨x27, hx27⟩ : ∃ x, a.tmps.getD 27 undef = x := ⟨_, rfl⟩
      obtain ⟨x29, hx29⟩ : ∃ x, a.tmps.getD 29 undef = x := ⟨_, rfl⟩
      obtain ⟨x31, hx31⟩ : ∃ x, a.tmps.getD 31 undef = x := ⟨_, rfl⟩
      obtain ⟨x32, hx32⟩ : ∃ x, a.tmps.getD 32 undef = x := ⟨_, rfl⟩
      rw [hx7, hx27, hx29, hx31, hx32] at ha
      rw [hx7] at g7
      rw [hx27] at g27
      rw [hx29] at g29
      rw [hx31] at g31
      rw [hx32] at g32
      have hku := hI.kp
      clear hI hsz hdf f0 f1 f2 f3 f4 f5 f6 f8 f9 f10 f11 f12 f13 f14 f15 f16 f17 f18 f19 f20 f21 f22 f23 f24 f25 f26 f28 f30 f33 f34 f35 f36 f37 f38 f39 f40 f41 f42 f43 f44 f45 f46 f47 f48 f49 f50 f51 f52 f53 f54 f55 f56 f57 f58 f59 f60 f61 f62 f63 f64 f65 f66 f67 f68 f69 f70 f71 f72 f73 f74 f75 f76 f77 f78 f79 f80 f81 f82 f83 f84 f85 f86 f87 f88 f89 f90 f91 f92 f93 f94 f95 f96 f97 f98 f99 f100 f101 f102 f103 hx7 hx27 hx29 hx31 hx32
      subst ha
      refine wpAny_tail 8 rfl (by kernel_rfl) ?_
      simp only [List.drop_succ_cons, List.drop_zero]
      simp only [Array.getD_eq_getD_getElem?, List.getElem?_toArray, List.getElem?_cons_zero, List.getElem?_cons_succ, Option.getD_some]
      obtain ⟨q, rfl, hq, lq⟩ := g7
      obtain ⟨gA, gB, gD, rfl, ha, hb, hd, hab, la, lb, ld⟩ := g32
      have y0 := hq.cell (i := 0) (v := .slice none 0 0) rfl
      have y1 := hq.cell (i := 1) (v := .slice none 0 0) rfl
      have y2 := hq.cell (i := 2) (v := .slice none 0 0) rfl
      have z0 := hq.free 0
      have z1 := hq.free 1
      have z2 := hq.free 2
      obtain ⟨w3, hw3⟩ : ∃ w3 : World, w3 = ((u.setCell ⟨q, 0, none⟩ (.slice (some ⟨gA, 0, none⟩) n n)).setCell ⟨q, 1, none⟩ (.slice (some ⟨gB, 0, none⟩) n n)).setCell ⟨q, 2, none⟩ (.slice (some ⟨gD, 0, none⟩) n n) := ⟨_, rfl⟩
      have kq : Kp (fun j => j = q) u w3 := by
        rw [hw3]
        exact (((Kp.refl (fun j => j = q) u).setCell (p := ⟨q, 0, none⟩) (fun _ => rfl) _).setCell (p := ⟨q, 1, none⟩) (fun _ => rfl) _).setCell (p := ⟨q, 2, none⟩) (fun _ => rfl) _
      have hq3 : Blk w3 q (allV gA gB gD n n n n) 41 := by
        rw [hw3]
        exact ((hq.set_same 0 (.slice (some ⟨gA, 0, none⟩) n n)).set_same 1 (.slice (some ⟨gB, 0, none⟩) n n)).set_same 2 (.slice (some ⟨gD, 0, none⟩) n n)
      have hqr : r4 < w1.heap.size := HRu.out.lt
      have HW3 := Lib.hid (show WAt w3 w1.heap.size gA gB gD n q r4 (fun _ => false) (fun _ => false) (fun _ => .slice none 0 0) (fun _ => []) from
        ⟨BolB.kp (by unfold BolB; rw [← made_row]; exact ha) kq (fun e => blk_ne ha hq (by decide) e), BolB.kp (by unfold BolB; rw [← made_row]; exact hb) kq (fun e => blk_ne hb hq (by decide) e),
         ⟨by rw [← made_row]; exact hd.kp kq (fun e => blk_ne hd hq (by decide) e), fun k hk => Own.nil _ _ _, ld, fun k hk j hj => (by cases hj), fun k k' h1 h2 h3 j hj => (by cases hj)⟩,
         hq3, (HRu.out.kp hku (fun h => h)).kp kq (fun e => by omega), hab, by omega, la, lb⟩)
      have HK3 := Lib.hid ((HKu.out.trans hku (fun _ _ h => h)).trans kq (fun j h1 e => by have := HKu.out.size; omega))
      have HLo := Lib.hid (show w.heap.size ≤ w1.heap.size from HKu.out.size)
      obtain ⟨lo, hlo⟩ : ∃ lo, w1.heap.size = lo := ⟨_, rfl⟩
      rw [hlo] at HW3 HLo
      clear ha hb hd hq hq3 kq hku hab la lb ld lq hqr
      unfold allV
      go_upto_region 3 with fail
      rw [← hw3]
      clear hw3 y0 y1 y2 z0 z1 z2
      go_wp2_with fail
      go_loopw [8] (fun v wr => ∃ (s : Nat) (R : Nat → Value), v = .int .i64 (s : Int) ∧ s ≤ n ∧ WAt wr lo gA gB gD n q r4 (fun t => decide (t < s) && sS t) (fun t => decide (t < s) && sB t) R (fun t => if t < s then natV (sN t) else []) ∧ Kp (fun _ => False) w wr) (fun v _ => n - (intOf v).toNat)
      case atStart => exact ⟨0, _, rfl, Nat.zero_le _, HW3.out.congr (fun t _ => by simp) (fun t _ => by simp) (fun t _ => by simp), HK3.out⟩
      case round =>
        clear HW3 HK3
        obtain ⟨s, R, rfl, hs, hW, hK⟩ := hrel
        have HW := Lib.hid hW
        have HK := Lib.hid hK
        obtain ⟨w4, rfl⟩ : ∃ w4 : World, w4 = wr := ⟨_, rfl⟩
        by_cases hlt : s < n
        · have s0 : (0 : Int) ≤ (s : Int) := by omega
          have s1 : (s : Int) < (n : Int) := by omega
          have c2 := HMl.out w4 hK
          have HLa := Lib.hid (show gA < w4.heap.size ∧ gB < w4.heap.size from ⟨hW.ba.lt, hW.bb.lt⟩)
          obtain ⟨lo2, hlo2⟩ : ∃ lo2, w4.heap.size = lo2 := ⟨_, rfl⟩
          have HBl4 := Lib.hid (HBl.out w4 s hlt)
          rw [hlo2] at HBl4 HLa
          clear hW hK hlo2
          go_upto_region 7 with (go_at_call 41; refine Calls.mono HBl4.out ?_; rintro e w5 ⟨sa, sc, rfl, hO, hk5⟩; have HO5 := Lib.hid hO; have HK5 := Lib.hid (HK.out.trans hk5 (fun _ _ h => h)); have HW5 := Lib.hid (HW.out.kp hk5); clear hO hk5)
          clear HBl4 c2
          refine wp_region_looseD (p := upTo 7) (V := atV [EqV (.pointer (some ⟨q, 0, none⟩)), EqV (.slice (some ⟨gA, 0, none⟩) n n), EqV ((.int .i64 (s : Int))), EqV ((.pointer (some ⟨p, 0, none⟩))), EqV ((.slice sa nl sc)), EqV (.bool (sS s)), EqV (.pointer (some ⟨gA, s, none⟩))]) (LP := #[true, true, true, true, true, true, true, false]) (K := 1) (by kernel_rfl) (by kernel_rfl) (atV_st ?hstW7) ?hstepW7 (by kernel_rfl) ?hLPW7 (by kernel_rfl) ?hendW7
          case hstW7 =>
            intro W h
            simp only [List.mem_cons, List.not_mem_nil, or_false] at h
            rcases h with rfl | rfl | rfl | rfl | rfl | rfl | rfl <;> first | exact EqV.st _ | exact LitC.st _ _ _ _ | exact Made3.st _ _ | exact NewC.st _ _ _
          case hLPW7 => exact upTo_spec (by kernel_rfl)
          case hstepW7 =>
            intro i o ho hp a u hk hoff hdep
            have e0 : a.tmps[0]?.getD undef = (.pointer (some ⟨p, 0, none⟩)) := slot_at (hoff 0 (noDst_spec (by kernel_rfl)))
            have e7 : a.tmps[7]?.getD undef = (.pointer (some ⟨q, 0, none⟩)) := slot_at (hoff 7 (noDst_spec (by kernel_rfl)))
            have e8 : a.tmps[8]?.getD undef = (.int .i64 (s : Int)) := slot_at (hoff 8 (noDst_spec (by kernel_rfl)))
            have e9 : a.tmps[9]?.getD undef = (.slice sa nl sc) := slot_at (hoff 9 (noDst_spec (by kernel_rfl)))
            clear hoff
            match i, ho with
            | 0, ho =>
              obtain rfl := Option.some.inj ho
              refine lw_value (v := .pointer (some ⟨q, 0, none⟩)) (u' := u) ?_ (Kp.refl _ _) rfl
              go_simp
            | 1, ho =>
              obtain rfl := Option.some.inj ho
              have e46 : a.tmps[46]?.getD undef = .pointer (some ⟨q, 0, none⟩) := slot_at (hdep ⟨0, .data⟩ (by simp) rfl _ 46 rfl rfl)
              have c1 := (HW5.out.all.kp hk (fun h => h)).cell (i := 0) (v := .slice (some ⟨gA, 0, none⟩) n n) rfl
              refine lw_value (v := .slice (some ⟨gA, 0, none⟩) n n) (u' := u) ?_ (Kp.refl _ _) rfl
              go_simp
            | 2, ho =>
              obtain rfl := Option.some.inj ho
              refine lw_value (v := (.int .i64 (s : Int))) (u' := u) ?_ (Kp.refl _ _) rfl
              go_simp
            | 3, ho =>
              obtain rfl := Option.some.inj ho
              refine lw_value (v := (.pointer (some ⟨p, 0, none⟩))) (u' := u) ?_ (Kp.refl _ _) rfl
              go_simp
            | 4, ho =>
              obtain rfl := Option.some.inj ho
              refine lw_value (v := (.slice sa nl sc)) (u' := u) ?_ (Kp.refl _ _) rfl
              go_simp
            | 5, ho =>
              obtain rfl := Option.some.inj ho
              have e49 : a.tmps[49]?.getD undef = (.pointer (some ⟨p, 0, none⟩)) := slot_at (hdep ⟨3, .data⟩ (by simp) rfl _ 49 rfl rfl)
              have e50 : a.tmps[50]?.getD undef = (.slice sa nl sc) := slot_at (hdep ⟨4, .data⟩ (by simp) rfl _ 50 rfl rfl)
              refine lw_call (f := 42) (args := #[.pointer (some ⟨p, 0, none⟩), .slice sa nl sc]) ?_ ?_
              · go_simp
              · exact (HSt.out u (HK5.out.trans hk (fun _ _ h => h)) s sa sc (HBs.out _ _ _ _ _ (HO5.out.kp hk (fun _ _ h => h)))).mono (by
                  rintro e u' ⟨rfl, rfl⟩
                  exact ⟨_, rfl, Kp.refl _ _, rfl⟩)
            | 6, ho =>
              obtain rfl := Option.some.inj ho
              have e47 : a.tmps[47]?.getD undef = .slice (some ⟨gA, 0, none⟩) n n := slot_at (hdep ⟨1, .data⟩ (by simp) rfl _ 47 rfl rfl)
              have e48 : a.tmps[48]?.getD undef = (.int .i64 (s : Int)) := slot_at (hdep ⟨2, .data⟩ (by simp) rfl _ 48 rfl rfl)
              refine lw_value (v := .pointer (some ⟨gA, s, none⟩)) (u' := u) ?_ (Kp.refl _ _) rfl
              go_simp
            | n + 7, _ => exact absurd hp (by simp [upTo])
          case hendW7 =>
            intro a u hI
            have hsz : a.tmps.size = 104 := hI.size
            have hdf : a.defers = [] := hI.defers
            have f0 := hI.o 0 (by kernel_rfl)
            have f1 := hI.o 1 (by kernel_rfl)
            have f2 := hI.o 2 (by kernel_rfl)
            have f3 := hI.o 3 (by kernel_rfl)
            have f4 := hI.o 4 (by kernel_rfl)
            have f5 := hI.o 5 (by kernel_rfl)
            have f6 := hI.o 6 (by kernel_rfl)
            have f7 := hI.o 7 (by kernel_rfl)
            have f8 := hI.o 8 (by kernel_rfl)
            have f9 := hI.o 9 (by kernel_rfl)
            have f10 := hI.o 10 (by kernel_rfl)
            have f11 := hI.o 11 (by kernel_rfl)
            have f12 := hI.o 12 (by kernel_rfl)
            have f13 := hI.o 13 (by kernel_rfl)
            have f14 := hI.o 14 (by kernel_rfl)
            have f15 := hI.o 15 (by kernel_rfl)
            have f16 := hI.o 16 (by kernel_rfl)
            have f17 := hI.o 17 (by kernel_rfl)
            have f18 := hI.o 18 (by kernel_rfl)
            have f19 := hI.o 19 (by kernel_rfl)
            have f20 := hI.o 20 (by kernel_rfl)
            have f21 := hI.o 21 (by kernel_rfl)
            have f22 := hI.o 22 (by kernel_rfl)
            have f23 := hI.o 23 (by kernel_rfl)
            have f24 := hI.o 24 (by kernel_rfl)
            have f25 := hI.o 25 (by kernel_rfl)
            have f26 := hI.o 26 (by kernel_rfl)
            have f27 := hI.o 27 (by kernel_rfl)
            have f28 := hI.o 28 (by kernel_rfl)
            have f29 := hI.o 29 (by kernel_rfl)
            have f30 := hI.o 30 (by kernel_rfl)
            have f31 := hI.o 31 (by kernel_rfl)
            have f32 := hI.o 32 (by kernel_rfl)
            have f33 := hI.o 33 (by kernel_rfl)
            have f34 := hI.o 34 (by kernel_rfl)
            have f35 := hI.o 35 (by kernel_rfl)
            have f36 := hI.o 36 (by kernel_rfl)
            have f37 := hI.o 37 (by kernel_rfl)
            have f38 := hI.o 38 (by kernel_rfl)
            have f39 := hI.o 39 (by kernel_rfl)
            have f40 := hI.o 40 (by kernel_rfl)
            have f41 := hI.o 41 (by kernel_rfl)
            have f42 := hI.o 42 (by kernel_rfl)
            have f43 := hI.o 43 (by kernel_rfl)
            have f44 := hI.o 44 (by kernel_rfl)
            have f45 := hI.o 45 (by kernel_rfl)
            have f53 := hI.o 53 (by kernel_rfl)
            have f54 := hI.o 54 (by kernel_rfl)
            have f55 := hI.o 55 (by kernel_rfl)
            have f56 := hI.o 56 (by kernel_rfl)
            have f57 := hI.o 57 (by kernel_rfl)
            have f58 := hI.o 58 (by kernel_rfl)
            have f59 := hI.o 59 (by kernel_rfl)
            have f60 := hI.o 60 (by kernel_rfl)
            have f61 := hI.o 61 (by kernel_rfl)
            have f62 := hI.o 62 (by kernel_rfl)
            have f63 := hI.o 63 (by kernel_rfl)
            have f64 := hI.o 64 (by kernel_rfl)
            have f65 := hI.o 65 (by kernel_rfl)
            have f66 := hI.o 66 (by kernel_rfl)
            have f67 := hI.o 67 (by kernel_rfl)
            have f68 := hI.o 68 (by kernel_rfl)
            have f69 := hI.o 69 (by kernel_rfl)
            have f70 := hI.o 70 (by kernel_rfl)
            have f71 := hI.o 71 (by kernel_rfl)
            have f72 := hI.o 72 (by kernel_rfl)
            have f73 := hI.o 73 (by kernel_rfl)
            have f74 := hI.o 74 (by kernel_rfl)
            have f75 := hI.o 75 (by kernel_rfl)
            have f76 := hI.o 76 (by kernel_rfl)
            have f77 := hI.o 77 (by kernel_rfl)
            have f78 := hI.o 78 (by kernel_rfl)
            have f79 := hI.o 79 (by kernel_rfl)
            have f80 := hI.o 80 (by kernel_rfl)
            have f81 := hI.o 81 (by kernel_rfl)
            have f82 := hI.o 82 (by kernel_rfl)
            have f83 := hI.o 83 (by kernel_rfl)
            have f84 := hI.o 84 (by kernel_rfl)
            have f85 := hI.o 85 (by kernel_rfl)
            have f86 := hI.o 86 (by kernel_rfl)
            have f87 := hI.o 87 (by kernel_rfl)
            have f88 := hI.o 88 (by kernel_rfl)
            have f89 := hI.o 89 (by kernel_rfl)
            have f90 := hI.o 90 (by kernel_rfl)
            have f91 := hI.o 91 (by kernel_rfl)
            have f92 := hI.o 92 (by kernel_rfl)
            have f93 := hI.o 93 (by kernel_rfl)
            have f94 := hI.o 94 (by kernel_rfl)
            have f95 := hI.o 95 (by kernel_rfl)
            have f96 := hI.o 96 (by kernel_rfl)
            have f97 := hI.o 97 (by kernel_rfl)
            have f98 := hI.o 98 (by kernel_rfl)
            have f99 := hI.o 99 (by kernel_rfl)
            have f100 := hI.o 100 (by kernel_rfl)
            have f101 := hI.o 101 (by kernel_rfl)
            have f102 := hI.o 102 (by kernel_rfl)
            have f103 := hI.o 103 (by kernel_rfl)
            have f46 : a.tmps.getD 46 undef = .pointer (some ⟨q, 0, none⟩) := hI.val 0 _ 46 rfl rfl rfl
            have f47 : a.tmps.getD 47 undef = .slice (some ⟨gA, 0, none⟩) n n := hI.val 1 _ 47 rfl rfl rfl
            have f48 : a.tmps.getD 48 undef = (.int .i64 (s : Int)) := hI.val 2 _ 48 rfl rfl rfl
            have f49 : a.tmps.getD 49 undef = (.pointer (some ⟨p, 0, none⟩)) := hI.val 3 _ 49 rfl rfl rfl
            have f50 : a.tmps.getD 50 undef = (.slice sa nl sc) := hI.val 4 _ 50 rfl rfl rfl
            have f51 : a.tmps.getD 51 undef = .bool (sS s) := hI.val 5 _ 51 rfl rfl rfl
            have f52 : a.tmps.getD 52 undef = .pointer (some ⟨gA, s, none⟩) := hI.val 6 _ 52 rfl rfl rfl
            have ha := act_list104 a hsz
            rw [hdf, f0, f1, f2, f3, f4, f5, f6, f7, f8, f9, f10, f11, f12, f13, f14, f15, f16, f17, f18, f19, f20, f21, f22, f23, f24, f25, f26, f27, f28, f29, f30, f31, f32, f33, f34, f35, f36, f37, f38, f39, f40, f41, f42, f43, f44, f45, f46, f47, f48, f49, f50, f51, f52, f53, f54, f55, f56, f57, f58, f59, f60, f61, f62, f63, f64, f65, f66, f67, f68, f69, f70, f71, f72, f73, f74, f75, f76, f77, f78, f79, f80, f81, f82, f83, f84, f85, f86, f87, f88, f89, f90, f91, f92, f93, f94, f95, f96, f97, f98, f99, f100, f101, f102, f103] at ha
            have hku := hI.kp
            clear hI hsz hdf f0 f1 f2 f3 f4 f5 f6 f7 f8 f9 f10 f11 f12 f13 f14 f15 f16 f17 f18 f19 f20 f21 f22 f23 f24 f25 f26 f27 f28 f29 f30 f31 f32 f33 f34 f35 f36 f37 f38 f39 f40 f41 f42 f43 f44 f45 f46 f47 f48 f49 f50 f51 f52 f53 f54 f55 f56 f57 f58 f59 f60 f61 f62 f63 f64 f65 f66 f67 f68 f69 f70 f71 f72 f73 f74 f75 f76 f77 f78 f79 f80 f81 f82 f83 f84 f85 f86 f87 f88 f89 f90 f91 f92 f93 f94 f95 f96 f97 f98 f99 f100 f101 f102 f103 
            subst ha
            refine wpAny_tail 7 rfl (by kernel_rfl) ?_
            simp only [List.drop_succ_cons, List.drop_zero]
            simp only [Array.getD_eq_getD_getElem?, List.getElem?_toArray, List.getElem?_cons_zero, List.getElem?_cons_succ, Option.getD_some]
            have HWu := HW5.out.kp hku
            have y0 := HWu.ba.at hlt
            have z0 := HWu.ba.free s
            obtain ⟨hW6, hk6⟩ := HWu.setA s (sS s)
            obtain ⟨w6, hw6⟩ : ∃ w6, w6 = u.setCell ⟨gA, s, none⟩ (.bool (sS s)) := ⟨_, rfl⟩
            rw [← hw6] at hW6 hk6
            have HO6 := Lib.hid ((HO5.out.kp hku (fun _ _ h => h)).kp hk6 (fun j hj e => by have := (HO5.out.lt j hj).1; have := HLa.out.1; omega))
            have HW6 := Lib.hid (hW6.congr (fS' := fun t => decide (t < s + 1) && sS t) (fB' := upB (fun t => decide (t < s) && sB t) s (BK s 0)) (A' := up1 (fun t => if t < s then natV (sN t) else []) s (natV (NK s 0))) (fun t _ => by
              unfold upB
              by_cases e : t = s
              · rw [if_pos e, e, decide_eq_true (Nat.lt_succ_self s)]; rfl
              · rw [if_neg e]; exact lt_and e _) (fun t _ => by
              unfold upB
              by_cases e : t = s
              · rw [if_pos e, HD0.out, e, decide_eq_false (Nat.lt_irrefl s)]; rfl
              · rw [if_neg e]) (fun t _ => by
              unfold up1
              by_cases e : t = s
              · rw [if_pos e, HN0.out, e, if_neg (Nat.lt_irrefl s)]; rfl
              · rw [if_neg e]))
            have HK6 := Lib.hid ((HK5.out.trans hku (fun _ _ h => h)).trans hk6 (fun j h1 e => by have := HWu.la; have := HLo.out; omega))
            clear HWu hW6 hk6 hku HO5 HK5 HW5
            go_upto_region 8 with fail
            rw [← hw6]
            clear hw6 y0 z0
            go_wp2_with fail
            go_loopw [10] (fun v wr => ∃ (ii : Nat) (R : Nat → Value), v = .int .i64 (ii : Int) ∧ ii ≤ mx ∧ WAt wr lo gA gB gD n q r4 (fun t => decide (t < s + 1) && sS t) (upB (fun t => decide (t < s) && sB t) s (BK s ii)) R (up1 (fun t => if t < s then natV (sN t) else []) s (natV (NK s ii))) ∧ Own wr lo2 4 (.slice sa nl sc) (bv (stN C s)) ∧ Kp (fun _ => False) w wr) (fun v _ => mx - (intOf v).toNat)
            case atStart => exact ⟨0, R, rfl, Nat.zero_le _, HW6.out, HO6.out, HK6.out⟩
            case round =>
              clear HW6 HO6 HK6 HW HK
              obtain ⟨ii, R, rfl, hi', hW, hO, hK⟩ := hrel
              have HW := Lib.hid hW
              have HO := Lib.hid hO
              have HK := Lib.hid hK
              obtain ⟨w4, rfl⟩ : ∃ w4 : World, w4 = wr := ⟨_, rfl⟩
              by_cases hil : ii < mx
              · have i0 : (0 : Int) ≤ (ii : Int) := by omega
                have i1 : (ii : Int) < (mx : Int) := by omega
                have c1 := HMi.out w4 hK
                have HBi4 := Lib.hid (HBi.out w4 ii hil)
                have HLb := Lib.hid (show gB < w4.heap.size from hW.bb.lt)
                obtain ⟨lo3, hlo3⟩ : ∃ lo3, w4.heap.size = lo3 := ⟨_, rfl⟩
                rw [hlo3] at HBi4 HLb
                clear hW hO hK hlo3
                go_upto_region 12 with (go_at_call 41; refine Calls.mono HBi4.out ?_; rintro e w5 ⟨ia, ic, rfl, hO, hk5⟩; have HI5 := Lib.hid hO; have HK5 := Lib.hid (HK.out.trans hk5 (fun _ _ h => h)); have HW5 := Lib.hid (HW.out.kp hk5); have HO5 := Lib.hid (HO.out.kp hk5 (fun _ _ h => h)); clear hO hk5)
                have HHo5 := Lib.hid (HHo.out w5 HK5.out s ii sa sc ia ic (HBs.out _ _ _ _ _ HO5.out) (HIs.out _ _ _ _ _ HI5.out))
                obtain ⟨hh, hhe⟩ : ∃ hh, H s ii = hh := ⟨_, rfl⟩
                rw [hhe] at HHo5
                have HHe := Lib.hid hhe
                clear HBi4 c1 hhe
                cases hh
                · go_wp2_with (go_at_call 43; refine Calls.mono HHo5.out ?_; rintro e w7 ⟨rfl, hk7⟩; have HK7 := Lib.hid (HK5.out.trans hk7 (fun _ _ h => h)); have HW7 := Lib.hid (HW5.out.kp hk7); have HO7 := Lib.hid (HO5.out.kp hk7 (fun _ _ h => h)); clear hk7)
                  go_roundw
                  case rel => exact ⟨ii + 1, R, by go_num, by omega, by rw [HDs.out s ii HHe.out, HNs.out s ii HHe.out]; exact HW7.out, HO7.out, HK7.out⟩
                  case measure => simp [intOf]; omega
                · have HBx := Lib.hid (fun (u : World) (hu : Kp (fun _ => False) w5 u) => HBa.out u (HK5.out.trans hu (fun _ _ h => h)) s ii sa sc ia ic (HBs.out _ _ _ _ _ (HO5.out.kp hu (fun _ _ h => h))) (HIs.out _ _ _ _ _ (HI5.out.kp hu (fun _ _ h => h))))
                  obtain ⟨y, hy⟩ : ∃ y, Bd s ii = y := ⟨_, rfl⟩
                  rw [hy] at HBx
                  have HYe := Lib.hid hy
                  clear hy
                  obtain ⟨x, hx⟩ : ∃ x, BK s ii = x := ⟨_, rfl⟩
                  have HXe := Lib.hid hx
                  have HDn := Lib.hid (show BK s (ii + 1) = (x || y) by rw [HDp.out s ii HHe.out, HXe.out, HYe.out])
                  rw [hx] at HW5
                  clear hx
                  cases x
                  · go_upto_region 13 with (go_at_call 43; refine Calls.mono HHo5.out ?_; rintro e w7 ⟨rfl, hk7⟩; have HK57 := Lib.hid hk7; have HK7 := Lib.hid (HK5.out.trans hk7 (fun _ _ h => h)); have HW7 := Lib.hid (HW5.out.kp hk7); have HO7 := Lib.hid (HO5.out.kp hk7 (fun _ _ h => h)); have HI7 := Lib.hid (HI5.out.kp hk7 (fun _ _ h => h)); clear hk7)
                    refine wp_region_looseG (p := upTo 16) (V := atV [EqV (.pointer (some ⟨q, 1, none⟩)), EqV (.slice (some ⟨gB, 0, none⟩) n n), EqV ((.int .i64 (s : Int))), EqV (.pointer (some ⟨q, 1, none⟩)), EqV (.slice (some ⟨gB, 0, none⟩) n n), EqV ((.int .i64 (s : Int))), EqV (.pointer (some ⟨gB, s, none⟩)), EqV (.bool false), EqV (.bool false), EqV ((.pointer (some ⟨p, 0, none⟩))), EqV ((.slice sa nl sc)), EqV ((.slice ia ni ic)), EqV ((.int .i64 pr)), EqV (.bool y), EqV (.bool y), EqV (.pointer (some ⟨gB, s, none⟩))]) (LP := #[true, true, true, true, true, true, true, true, true, true, true, true, true, true, true, true, false]) (K := 1) (by kernel_rfl) (by kernel_rfl) (atV_st ?hstW13F) ?hstepW13F (by kernel_rfl) ?hLPW13F (by kernel_rfl) ?hendW13F
                    case hstW13F =>
                      intro W h
                      simp only [List.mem_cons, List.not_mem_nil, or_false] at h
                      rcases h with rfl | rfl | rfl | rfl | rfl | rfl | rfl | rfl | rfl | rfl | rfl | rfl | rfl | rfl | rfl | rfl <;> first | exact EqV.st _ | exact LitC.st _ _ _ _ | exact Made3.st _ _ | exact NewC.st _ _ _
                    case hLPW13F => exact upTo_spec (by kernel_rfl)
                    case hstepW13F =>
                      intro i o ho hp a u hk hoff hdep
                      have e0 : a.tmps[0]?.getD undef = (.pointer (some ⟨p, 0, none⟩)) := slot_at (hoff 0 (noDst_spec (by kernel_rfl)))
                      have e1 : a.tmps[1]?.getD undef = (.int .i64 pr) := slot_at (hoff 1 (noDst_spec (by kernel_rfl)))
                      have e7 : a.tmps[7]?.getD undef = (.pointer (some ⟨q, 0, none⟩)) := slot_at (hoff 7 (noDst_spec (by kernel_rfl)))
                      have e8 : a.tmps[8]?.getD undef = (.int .i64 (s : Int)) := slot_at (hoff 8 (noDst_spec (by kernel_rfl)))
                      have e9 : a.tmps[9]?.getD undef = (.slice sa nl sc) := slot_at (hoff 9 (noDst_spec (by kernel_rfl)))
                      have e11 : a.tmps[11]?.getD undef = (.slice ia ni ic) := slot_at (hoff 11 (noDst_spec (by kernel_rfl)))
                      clear hoff
                      match i, ho with
                      | 0, ho =>
                        obtain rfl := Option.some.inj ho
                        refine lg_none rfl ?_
                        refine lw_value (v := .pointer (some ⟨q, 1, none⟩)) (u' := u) ?_ (Kp.refl _ _) rfl
                        go_simp
                      | 1, ho =>
                        obtain rfl := Option.some.inj ho
                        have e71 : a.tmps[71]?.getD undef = .pointer (some ⟨q, 1, none⟩) := slot_at (hdep ⟨0, .data⟩ (by simp) rfl _ 71 rfl rfl)
                        refine lg_none rfl ?_
                        have c1 := (HW7.out.all.kp hk (fun h => h)).cell (i := 1) (v := .slice (some ⟨gB, 0, none⟩) n n) rfl
                        refine lw_value (v := .slice (some ⟨gB, 0, none⟩) n n) (u' := u) ?_ (Kp.refl _ _) rfl
                        go_simp
                      | 2, ho =>
                        obtain rfl := Option.some.inj ho
                        refine lg_none rfl ?_
                        refine lw_value (v := (.int .i64 (s : Int))) (u' := u) ?_ (Kp.refl _ _) rfl
                        go_simp
                      | 3, ho =>
                        obtain rfl := Option.some.inj ho
                        refine lg_none rfl ?_
                        refine lw_value (v := .pointer (some ⟨q, 1, none⟩)) (u' := u) ?_ (Kp.refl _ _) rfl
                        go_simp
                      | 4, ho =>
                        obtain rfl := Option.some.inj ho
                        have e74 : a.tmps[74]?.getD undef = .pointer (some ⟨q, 1, none⟩) := slot_at (hdep ⟨3, .data⟩ (by simp) rfl _ 74 rfl rfl)
                        refine lg_none rfl ?_
                        have c1 := (HW7.out.all.kp hk (fun h => h)).cell (i := 1) (v := .slice (some ⟨gB, 0, none⟩) n n) rfl
                        refine lw_value (v := .slice (some ⟨gB, 0, none⟩) n n) (u' := u) ?_ (Kp.refl _ _) rfl
                        go_simp
                      | 5, ho =>
                        obtain rfl := Option.some.inj ho
                        refine lg_none rfl ?_
                        refine lw_value (v := (.int .i64 (s : Int))) (u' := u) ?_ (Kp.refl _ _) rfl
                        go_simp
                      | 6, ho =>
                        obtain rfl := Option.some.inj ho
                        have e75 : a.tmps[75]?.getD undef = .slice (some ⟨gB, 0, none⟩) n n := slot_at (hdep ⟨4, .data⟩ (by simp) rfl _ 75 rfl rfl)
                        have e76 : a.tmps[76]?.getD undef = (.int .i64 (s : Int)) := slot_at (hdep ⟨5, .data⟩ (by simp) rfl _ 76 rfl rfl)
                        refine lg_none rfl ?_
                        refine lw_value (v := .pointer (some ⟨gB, s, none⟩)) (u' := u) ?_ (Kp.refl _ _) rfl
                        go_simp
                      | 7, ho =>
                        obtain rfl := Option.some.inj ho
                        have e77 : a.tmps[77]?.getD undef = .pointer (some ⟨gB, s, none⟩) := slot_at (hdep ⟨6, .data⟩ (by simp) rfl _ 77 rfl rfl)
                        refine lg_none rfl ?_
                        have c1 := (HW7.out.bb.kp hk (fun h => h)).at hlt
                        rw [show upB (fun t => decide (t < s) && sB t) s false s = false from if_pos rfl] at c1
                        refine lw_value (v := .bool false) (u' := u) ?_ (Kp.refl _ _) rfl
                        go_simp
                      | 8, ho =>
                        obtain rfl := Option.some.inj ho
                        have e78 : a.tmps[78]?.getD undef = .bool false := slot_at (hdep ⟨7, .data⟩ (by simp) rfl _ 78 rfl rfl)
                        refine lg_none rfl ?_
                        refine lw_value (v := .bool false) (u' := u) ?_ (Kp.refl _ _) rfl
                        go_simp
                      | 9, ho =>
                        obtain rfl := Option.some.inj ho
                        have e79 : a.tmps[79]?.getD undef = .bool false := slot_at (hdep ⟨8, .guard⟩ (by simp) rfl _ 79 rfl rfl)
                        refine lg_on (x := 79) rfl rfl e79 ?_
                        refine lw_value (v := (.pointer (some ⟨p, 0, none⟩))) (u' := u) ?_ (Kp.refl _ _) rfl
                        go_simp
                      | 10, ho =>
                        obtain rfl := Option.some.inj ho
                        have e79 : a.tmps[79]?.getD undef = .bool false := slot_at (hdep ⟨8, .guard⟩ (by simp) rfl _ 79 rfl rfl)
                        refine lg_on (x := 79) rfl rfl e79 ?_
                        refine lw_value (v := (.slice sa nl sc)) (u' := u) ?_ (Kp.refl _ _) rfl
                        go_simp
                      | 11, ho =>
                        obtain rfl := Option.some.inj ho
                        have e79 : a.tmps[79]?.getD undef = .bool false := slot_at (hdep ⟨8, .guard⟩ (by simp) rfl _ 79 rfl rfl)
                        refine lg_on (x := 79) rfl rfl e79 ?_
                        refine lw_value (v := (.slice ia ni ic)) (u' := u) ?_ (Kp.refl _ _) rfl
                        go_simp
                      | 12, ho =>
                        obtain rfl := Option.some.inj ho
                        have e79 : a.tmps[79]?.getD undef = .bool false := slot_at (hdep ⟨8, .guard⟩ (by simp) rfl _ 79 rfl rfl)
                        refine lg_on (x := 79) rfl rfl e79 ?_
                        refine lw_value (v := (.int .i64 pr)) (u' := u) ?_ (Kp.refl _ _) rfl
                        go_simp
                      | 13, ho =>
                        obtain rfl := Option.some.inj ho
                        have e80 : a.tmps[80]?.getD undef = (.pointer (some ⟨p, 0, none⟩)) := slot_at (hdep ⟨9, .data⟩ (by simp) rfl _ 80 rfl rfl)
                        have e81 : a.tmps[81]?.getD undef = (.slice sa nl sc) := slot_at (hdep ⟨10, .data⟩ (by simp) rfl _ 81 rfl rfl)
                        have e82 : a.tmps[82]?.getD undef = (.slice ia ni ic) := slot_at (hdep ⟨11, .data⟩ (by simp) rfl _ 82 rfl rfl)
                        have e83 : a.tmps[83]?.getD undef = (.int .i64 pr) := slot_at (hdep ⟨12, .data⟩ (by simp) rfl _ 83 rfl rfl)
                        have e79 : a.tmps[79]?.getD undef = .bool false := slot_at (hdep ⟨8, .chain⟩ (by simp) rfl _ 79 rfl rfl)
                        refine lg_on (x := 79) rfl rfl e79 ?_
                        refine lw_call (f := 44) (args := #[.pointer (some ⟨p, 0, none⟩), .slice sa nl sc, .slice ia ni ic, .int .i64 pr]) ?_ ?_
                        · go_simp
                        · exact (HBx.out u (HK57.out.trans hk (fun _ _ h => h))).mono (by
                            rintro e u' ⟨rfl, hK⟩
                            exact ⟨_, rfl, hK, rfl⟩)
                      | 14, ho =>
                        obtain rfl := Option.some.inj ho
                        have e79 : a.tmps[79]?.getD undef = .bool false := slot_at (hdep ⟨8, .data⟩ (by simp) rfl _ 79 rfl rfl)
                        have e84 : a.tmps[84]?.getD undef = .bool y := slot_at (hdep ⟨13, .data⟩ (by simp) rfl _ 84 rfl rfl)
                        refine lg_none rfl ?_
                        refine lw_value (v := .bool y) (u' := u) ?_ (Kp.refl _ _) rfl
                        go_simp
                      | 15, ho =>
                        obtain rfl := Option.some.inj ho
                        have e72 : a.tmps[72]?.getD undef = .slice (some ⟨gB, 0, none⟩) n n := slot_at (hdep ⟨1, .data⟩ (by simp) rfl _ 72 rfl rfl)
                        have e73 : a.tmps[73]?.getD undef = (.int .i64 (s : Int)) := slot_at (hdep ⟨2, .data⟩ (by simp) rfl _ 73 rfl rfl)
                        refine lg_none rfl ?_
                        refine lw_value (v := .pointer (some ⟨gB, s, none⟩)) (u' := u) ?_ (Kp.refl _ _) rfl
                        go_simp
                      | n + 16, _ => exact absurd hp (by simp [upTo])
                    case hendW13F =>
                      intro a u hI
                      have hsz : a.tmps.size = 104 := hI.size
                      have hdf : a.defers = [] := hI.defers
                      have f0 := hI.o 0 (by kernel_rfl)
                      have f1 := hI.o 1 (by kernel_rfl)
                      have f2 := hI.o 2 (by kernel_rfl)
                      have f3 := hI.o 3 (by kernel_rfl)
                      have f4 := hI.o 4 (by kernel_rfl)
                      have f5 := hI.o 5 (by kernel_rfl)
                      have f6 := hI.o 6 (by kernel_rfl)
                      have f7 := hI.o 7 (by kernel_rfl)
                      have f8 := hI.o 8 (by kernel_rfl)
                      have f9 := hI.o 9 (by kernel_rfl)
                      have f10 := hI.o 10 (by kernel_rfl)
                      have f11 := hI.o 11 (by kernel_rfl)
                      have f12 := hI.o 12 (by kernel_rfl)
                      have f13 := hI.o 13 (by kernel_rfl)
                      have f14 := hI.o 14 (by kernel_rfl)
                      have f15 := hI.o 15 (by kernel_rfl)
                      have f16 := hI.o 16 (by kernel_rfl)
                      have f17 := hI.o 17 (by kernel_rfl)
                      have f18 := hI.o 18 (by kernel_rfl)
                      have f19 := hI.o 19 (by kernel_rfl)
                      have f20 := hI.o 20 (by kernel_rfl)
                      have f21 := hI.o 21 (by kernel_rfl)
                      have f22 := hI.o 22 (by kernel_rfl)
                      have f23 := hI.o 23 (by kernel_rfl)
                      have f24 := hI.o 24 (by kernel_rfl)
                      have f25 := hI.o 25 (by kernel_rfl)
                      have f26 := hI.o 26 (by kernel_rfl)
                      have f27 := hI.o 27 (by kernel_rfl)
                      have f28 := hI.o 28 (by kernel_rfl)
                      have f29 := hI.o 29 (by kernel_rfl)
                      have f30 := hI.o 30 (by kernel_rfl)
                      have f31 := hI.o 31 (by kernel_rfl)
                      have f32 := hI.o 32 (by kernel_rfl)
                      have f33 := hI.o 33 (by kernel_rfl)
                      have f34 := hI.o 34 (by kernel_rfl)
                      have f35 := hI.o 35 (by kernel_rfl)
                      have f36 := hI.o 36 (by kernel_rfl)
                      have f37 := hI.o 37 (by kernel_rfl)
                      have f38 := hI.o 38 (by kernel_rfl)
                      have f39 := hI.o 39 (by kernel_rfl)
                      have f40 := hI.o 40 (by kernel_rfl)
                      have f41 := hI.o 41 (by kernel_rfl)
                      have f42 := hI.o 42 (by kernel_rfl)
                      have f43 := hI.o 43 (by kernel_rfl)
                      have f44 := hI.o 44 (by kernel_rfl)
                      have f45 := hI.o 45 (by kernel_rfl)
                      have f46 := hI.o 46 (by kernel_rfl)
                      have f47 := hI.o 47 (by kernel_rfl)
                      have f48 := hI.o 48 (by kernel_rfl)
                      have f49 := hI.o 49 (by kernel_rfl)
                      have f50 := hI.o 50 (by kernel_rfl)
                      have f51 := hI.o 51 (by kernel_rfl)
                      have f52 := hI.o 52 (by kernel_rfl)
                      have f53 := hI.o 53 (by kernel_rfl)
                      have f54 := hI.o 54 (by kernel_rfl)
                      have f55 := hI.o 55 (by kernel_rfl)
                      have f56 := hI.o 56 (by kernel_rfl)
                      have f57 := hI.o 57 (by kernel_rfl)
                      have f58 := hI.o 58 (by kernel_rfl)
                      have f59 := hI.o 59 (by kernel_rfl)
                      have f60 := hI.o 60 (by kernel_rfl)
                      have f61 := hI.o 61 (by kernel_rfl)
                      have f62 := hI.o 62 (by kernel_rfl)
                      have f63 := hI.o 63 (by kernel_rfl)
                      have f64 := hI.o 64 (by kernel_rfl)
                      have f65 := hI.o 65 (by kernel_rfl)
                      have f66 := hI.o 66 (by kernel_rfl)
                      have f67 := hI.o 67 (by kernel_rfl)
                      have f68 := hI.o 68 (by kernel_rfl)
                      have f69 := hI.o 69 (by kernel_rfl)
                      have f70 := hI.o 70 (by kernel_rfl)
                      have f87 := hI.o 87 (by kernel_rfl)
                      have f88 := hI.o 88 (by kernel_rfl)
                      have f89 := hI.o 89 (by kernel_rfl)
                      have f90 := hI.o 90 (by kernel_rfl)
                      have f91 := hI.o 91 (by kernel_rfl)
                      have f92 := hI.o 92 (by kernel_rfl)
                      have f93 := hI.o 93 (by kernel_rfl)
                      have f94 := hI.o 94 (by kernel_rfl)
                      have f95 := hI.o 95 (by kernel_rfl)
                      have f96 := hI.o 96 (by kernel_rfl)
                      have f97 := hI.o 97 (by kernel_rfl)
                      have f98 := hI.o 98 (by kernel_rfl)
                      have f99 := hI.o 99 (by kernel_rfl)
                      have f100 := hI.o 100 (by kernel_rfl)
                      have f101 := hI.o 101 (by kernel_rfl)
                      have f102 := hI.o 102 (by kernel_rfl)
                      have f103 := hI.o 103 (by kernel_rfl)
                      have f71 : a.tmps.getD 71 undef = .pointer (some ⟨q, 1, none⟩) := hI.val 0 _ 71 rfl rfl rfl
                      have f72 : a.tmps.getD 72 undef = .slice (some ⟨gB, 0, none⟩) n n := hI.val 1 _ 72 rfl rfl rfl
                      have f73 : a.tmps.getD 73 undef = (.int .i64 (s : Int)) := hI.val 2 _ 73 rfl rfl rfl
                      have f74 : a.tmps.getD 74 undef = .pointer (some ⟨q, 1, none⟩) := hI.val 3 _ 74 rfl rfl rfl
                      have f75 : a.tmps.getD 75 undef = .slice (some ⟨gB, 0, none⟩) n n := hI.val 4 _ 75 rfl rfl rfl
                      have f76 : a.tmps.getD 76 undef = (.int .i64 (s : Int)) := hI.val 5 _ 76 rfl rfl rfl
                      have f77 : a.tmps.getD 77 undef = .pointer (some ⟨gB, s, none⟩) := hI.val 6 _ 77 rfl rfl rfl
                      have f78 : a.tmps.getD 78 undef = .bool false := hI.val 7 _ 78 rfl rfl rfl
                      have f79 : a.tmps.getD 79 undef = .bool false := hI.val 8 _ 79 rfl rfl rfl
                      have f80 : a.tmps.getD 80 undef = (.pointer (some ⟨p, 0, none⟩)) := hI.val 9 _ 80 rfl rfl rfl
                      have f81 : a.tmps.getD 81 undef = (.slice sa nl sc) := hI.val 10 _ 81 rfl rfl rfl
                      have f82 : a.tmps.getD 82 undef = (.slice ia ni ic) := hI.val 11 _ 82 rfl rfl rfl
                      have f83 : a.tmps.getD 83 undef = (.int .i64 pr) := hI.val 12 _ 83 rfl rfl rfl
                      have f84 : a.tmps.getD 84 undef = .bool y := hI.val 13 _ 84 rfl rfl rfl
                      have f85 : a.tmps.getD 85 undef = .bool y := hI.val 14 _ 85 rfl rfl rfl
                      have f86 : a.tmps.getD 86 undef = .pointer (some ⟨gB, s, none⟩) := hI.val 15 _ 86 rfl rfl rfl
                      have ha := act_list104 a hsz
                      rw [hdf, f0, f1, f2, f3, f4, f5, f6, f7, f8, f9, f10, f11, f12, f13, f14, f15, f16, f17, f18, f19, f20, f21, f22, f23, f24, f25, f26, f27, f28, f29, f30, f31, f32, f33, f34, f35, f36, f37, f38, f39, f40, f41, f42, f43, f44, f45, f46, f47, f48, f49, f50, f51, f52, f53, f54, f55, f56, f57, f58, f59, f60, f61, f62, f63, f64, f65, f66, f67, f68, f69, f70, f71, f72, f73, f74, f75, f76, f77, f78, f79, f80, f81, f82, f83, f84, f85, f86, f87, f88, f89, f90, f91, f92, f93, f94, f95, f96, f97, f98, f99, f100, f101, f102, f103] at ha
                      have hku := hI.kp
                      clear hI hsz hdf f0 f1 f2 f3 f4 f5 f6 f7 f8 f9 f10 f11 f12 f13 f14 f15 f16 f17 f18 f19 f20 f21 f22 f23 f24 f25 f26 f27 f28 f29 f30 f31 f32 f33 f34 f35 f36 f37 f38 f39 f40 f41 f42 f43 f44 f45 f46 f47 f48 f49 f50 f51 f52 f53 f54 f55 f56 f57 f58 f59 f60 f61 f62 f63 f64 f65 f66 f67 f68 f69 f70 f71 f72 f73 f74 f75 f76 f77 f78 f79 f80 f81 f82 f83 f84 f85 f86 f87 f88 f89 f90 f91 f92 f93 f94 f95 f96 f97 f98 f99 f100 f101 f102 f103 
                      subst ha
                      refine wpAny_tail 16 rfl (by kernel_rfl) ?_
                      simp only [List.drop_succ_cons, List.drop_zero]
                      simp only [Array.getD_eq_getD_getElem?, List.getElem?_toArray, List.getElem?_cons_zero, List.getElem?_cons_succ, Option.getD_some]
                      have HWu := HW7.out.kp hku
                      have y0 := HWu.bb.at hlt
                      have z0 := HWu.bb.free s
                      obtain ⟨hW8, hk8⟩ := HWu.setB s (y)
                      obtain ⟨w9, hw9⟩ : ∃ w9, w9 = u.setCell ⟨gB, s, none⟩ (.bool (y)) := ⟨_, rfl⟩
                      rw [← hw9] at hW8 hk8
                      have HO9 := Lib.hid ((HO7.out.kp hku (fun _ _ h => h)).kp hk8 (fun j hj e => by have := (HO7.out.lt j hj).1; have := HLa.out.2; omega))
                      have HI9 := Lib.hid ((HI7.out.kp hku (fun _ _ h => h)).kp hk8 (fun j hj e => by have := (HI7.out.lt j hj).1; have := HLb.out; omega))
                      have HW9 := Lib.hid (hW8.congr (fS' := fun t => decide (t < s + 1) && sS t) (fB' := upB (fun t => decide (t < s) && sB t) s (BK s (ii + 1))) (fun _ _ => rfl) (fun t _ => by
                        unfold upB
                        by_cases e : t = s
                        · rw [if_pos e, if_pos e, HDn.out]; rfl
                        · rw [if_neg e, if_neg e, if_neg e]) (fun _ _ => rfl))
                      have HK9 := Lib.hid ((HK7.out.trans hku (fun _ _ h => h)).trans hk8 (fun j h1 e => by have := HWu.lb; have := HLo.out; omega))
                      clear HWu hW8 hk8 hku
                      go_upto_region 14 with fail
                      rw [← hw9]
                      clear hw9 y0 z0 HO7 HI7 HW7 HK7 HK57
                      obtain ⟨ea, ec, hRv, -⟩ := (HW9.out.rows.ow s hlt).form
                      rw [iv_length, show up1 (fun t => if t < s then natV (sN t) else []) s (natV (NK s ii)) s = natV (NK s ii) from up1_at _ _ _, natV_len] at hRv
                      have HRv := Lib.hid hRv
                      have HRow := Lib.hid (show Own w9 lo 3 (.slice ea (NK s ii).length ec) (iv (natV (NK s ii))) by
                        have := HW9.out.rows.ow s hlt
                        rw [show up1 (fun t => if t < s then natV (sN t) else []) s (natV (NK s ii)) s = natV (NK s ii) from up1_at _ _ _, hRv] at this
                        exact this)
                      have HQo := Lib.hid (show ¬ (Value.slice ea (NK s ii).length ec).ownBlock = some q from fun e => own_ne_blk HRow.out HW9.out.all (by decide) q e rfl)
                      have HDo := Lib.hid (show ¬ (Value.slice ea (NK s ii).length ec).ownBlock = some gD from fun e => own_ne_blk HRow.out HW9.out.rows.blk (by decide) gD e rfl)
                      have hNl := HNl.out s ii
                      have HLo9 := Lib.hid (show lo ≤ w9.heap.size from by have := HW9.out.la; have := HW9.out.ba.lt; omega)
                      clear hRv
                      refine wp_region_looseS (p := (inL [0, 1, 2, 3, 4, 5, 6, 7, 8, 9, 10, 11, 12, 13, 14])) (V := atV [EqV (.pointer (some ⟨q, 2, none⟩)), EqV (.slice (some ⟨gD, 0, none⟩) n n), EqV ((.int .i64 (s : Int))), EqV (.pointer (some ⟨q, 2, none⟩)), EqV (.slice (some ⟨gD, 0, none⟩) n n), EqV ((.int .i64 (s : Int))), EqV (.pointer (some ⟨gD, s, none⟩)), EqV (.slice ea (NK s ii).length ec), EqV ((.pointer (some ⟨p, 0, none⟩))), EqV ((.slice sa nl sc)), EqV ((.slice ia ni ic)), AnyV, AnyV, AnyV, AnyV]) (R := (fun _ _ => True)) (W := (WN w9 lo nl ((X s ii : Nat) : Int) (nextM C (stN C s) (inN2 C ii)) (natV (NK s ii)) (Value.slice ea (NK s ii).length ec).ownBlock)) (c := (inL [11, 12, 13, 14])) (LP := #[true, true, true, true, true, true, true, true, true, true, true, true, true, true, true, false, false]) (K := 2) (N := 4) (by kernel_rfl) (by kernel_rfl) (by kernel_rfl) trivial ((Kp.refl _ _).drew) (fun _ _ _ _ _ => trivial) (atV_stR ?hstW14) ?hstepW14 (by kernel_rfl) ?hLPW14 (by kernel_rfl) (by kernel_rfl) ?hendW14
                      case hstW14 =>
                        intro V h
                        simp only [List.mem_cons, List.not_mem_nil, or_false] at h
                        rcases h with rfl | rfl | rfl | rfl | rfl | rfl | rfl | rfl | rfl | rfl | rfl | rfl | rfl | rfl | rfl <;> intro u u' v k h <;> first | exact h | exact trivial | exact EqV.st _
                      case hLPW14 => exact pOf_spec (by kernel_rfl)
                      case hstepW14 =>
                        intro i o ho hp vs a u hk hw hn hub htold hoff hdep
                        have e0 : a.tmps[0]?.getD undef = (.pointer (some ⟨p, 0, none⟩)) := slot_at (hoff 0 (noDst_spec (by kernel_rfl)))
                        have e7 : a.tmps[7]?.getD undef = (.pointer (some ⟨q, 0, none⟩)) := slot_at (hoff 7 (noDst_spec (by kernel_rfl)))
                        have e8 : a.tmps[8]?.getD undef = (.int .i64 (s : Int)) := slot_at (hoff 8 (noDst_spec (by kernel_rfl)))
                        have e9 : a.tmps[9]?.getD undef = (.slice sa nl sc) := slot_at (hoff 9 (noDst_spec (by kernel_rfl)))
                        have e11 : a.tmps[11]?.getD undef = (.slice ia ni ic) := slot_at (hoff 11 (noDst_spec (by kernel_rfl)))
                        clear hoff
                        match i, ho with
                        | 0, ho =>
                          obtain rfl := Option.some.inj ho
                          show LS _ _ _ _ _ _ _ false _ _ _ _
                          clear hn
                          refine lsn_value (v := .pointer (some ⟨q, 2, none⟩)) (u' := u) rfl ?_ trivial hw rfl
                          go_simp
                        | 1, ho =>
                          obtain rfl := Option.some.inj ho
                          show LS _ _ _ _ _ _ _ false _ _ _ _
                          clear hn
                          have e87 : a.tmps[87]?.getD undef = .pointer (some ⟨q, 2, none⟩) := slot_at (hdep ⟨0, .data⟩ (by simp) rfl _ 87 rfl rfl)
                          have c1 := (HW9.out.all.kp hw.all (fun e => HQo.out e)).cell (i := 2) (v := .slice (some ⟨gD, 0, none⟩) n n) rfl
                          refine lsn_value (v := .slice (some ⟨gD, 0, none⟩) n n) (u' := u) rfl ?_ trivial hw rfl
                          go_simp
                        | 2, ho =>
                          obtain rfl := Option.some.inj ho
                          show LS _ _ _ _ _ _ _ false _ _ _ _
                          clear hn
                          refine lsn_value (v := (.int .i64 (s : Int))) (u' := u) rfl ?_ trivial hw rfl
                          go_simp
                        | 3, ho =>
                          obtain rfl := Option.some.inj ho
                          show LS _ _ _ _ _ _ _ false _ _ _ _
                          clear hn
                          refine lsn_value (v := .pointer (some ⟨q, 2, none⟩)) (u' := u) rfl ?_ trivial hw rfl
                          go_simp
                        | 4, ho =>
                          obtain rfl := Option.some.inj ho
                          show LS _ _ _ _ _ _ _ false _ _ _ _
                          clear hn
                          have e90 : a.tmps[90]?.getD undef = .pointer (some ⟨q, 2, none⟩) := slot_at (hdep ⟨3, .data⟩ (by simp) rfl _ 90 rfl rfl)
                          have c1 := (HW9.out.all.kp hw.all (fun e => HQo.out e)).cell (i := 2) (v := .slice (some ⟨gD, 0, none⟩) n n) rfl
                          refine lsn_value (v := .slice (some ⟨gD, 0, none⟩) n n) (u' := u) rfl ?_ trivial hw rfl
                          go_simp
                        | 5, ho =>
                          obtain rfl := Option.some.inj ho
                          show LS _ _ _ _ _ _ _ false _ _ _ _
                          clear hn
                          refine lsn_value (v := (.int .i64 (s : Int))) (u' := u) rfl ?_ trivial hw rfl
                          go_simp
                        | 6, ho =>
                          obtain rfl := Option.some.inj ho
                          show LS _ _ _ _ _ _ _ false _ _ _ _
                          clear hn
                          have e91 : a.tmps[91]?.getD undef = .slice (some ⟨gD, 0, none⟩) n n := slot_at (hdep ⟨4, .data⟩ (by simp) rfl _ 91 rfl rfl)
                          have e92 : a.tmps[92]?.getD undef = (.int .i64 (s : Int)) := slot_at (hdep ⟨5, .data⟩ (by simp) rfl _ 92 rfl rfl)
                          refine lsn_value (v := .pointer (some ⟨gD, s, none⟩)) (u' := u) rfl ?_ trivial hw rfl
                          go_simp
                        | 7, ho =>
                          obtain rfl := Option.some.inj ho
                          show LS _ _ _ _ _ _ _ false _ _ _ _
                          clear hn
                          have e93 : a.tmps[93]?.getD undef = .pointer (some ⟨gD, s, none⟩) := slot_at (hdep ⟨6, .data⟩ (by simp) rfl _ 93 rfl rfl)
                          have hl3 : vs.length ≤ 3 := hub 14 (by decide) rfl (by decide +kernel)
                          have c1 := (HW9.out.rows.kp (hw.early hl3)).cell hlt
                          rw [HRv.out] at c1
                          refine lsn_value (v := .slice ea (NK s ii).length ec) (u' := u) rfl ?_ trivial hw rfl
                          go_simp
                        | 8, ho =>
                          obtain rfl := Option.some.inj ho
                          show LS _ _ _ _ _ _ _ false _ _ _ _
                          clear hn
                          refine lsn_value (v := (.pointer (some ⟨p, 0, none⟩))) (u' := u) rfl ?_ trivial hw rfl
                          go_simp
                        | 9, ho =>
                          obtain rfl := Option.some.inj ho
                          show LS _ _ _ _ _ _ _ false _ _ _ _
                          clear hn
                          refine lsn_value (v := (.slice sa nl sc)) (u' := u) rfl ?_ trivial hw rfl
                          go_simp
                        | 10, ho =>
                          obtain rfl := Option.some.inj ho
                          show LS _ _ _ _ _ _ _ false _ _ _ _
                          clear hn
                          refine lsn_value (v := (.slice ia ni ic)) (u' := u) rfl ?_ trivial hw rfl
                          go_simp
                        | 11, ho =>
                          obtain rfl := Option.some.inj ho
                          have hlen : vs.length = 0 := (hn rfl).trans (by kernel_rfl)
                          obtain rfl : vs = [] := List.eq_nil_of_length_eq_zero hlen
                          show LS _ _ _ _ _ _ _ true _ _ _ _
                          clear hn
                          have e95 : a.tmps[95]?.getD undef = (.pointer (some ⟨p, 0, none⟩)) := slot_at (hdep ⟨8, .data⟩ (by simp) rfl _ 95 rfl rfl)
                          have e96 : a.tmps[96]?.getD undef = (.slice sa nl sc) := slot_at (hdep ⟨9, .data⟩ (by simp) rfl _ 96 rfl rfl)
                          have e97 : a.tmps[97]?.getD undef = (.slice ia ni ic) := slot_at (hdep ⟨10, .data⟩ (by simp) rfl _ 97 rfl rfl)
                          have hk9 : Kp (fun _ => False) w9 u := hw
                          refine lsn_call (f := 46) (args := #[.pointer (some ⟨p, 0, none⟩), .slice sa nl sc, .slice ia ni ic]) rfl ?_ ?_
                          · go_simp
                          · exact (HNx.out u (HK9.out.trans hk9 (fun _ _ h => h)) s ii sa sc ia ic (HBs.out _ _ _ _ _ (HO9.out.kp hk9 (fun _ _ h => h))) (HIs.out _ _ _ _ _ (HI9.out.kp hk9 (fun _ _ h => h)))).mono (by
                              rintro e u' ⟨na, nc, rfl, hr, hK⟩
                              exact ⟨_, rfl, trivial, ⟨hk9.trans hK (fun _ _ h => h), na, nc, rfl, hr⟩, trivial⟩)
                        | 12, ho =>
                          obtain rfl := Option.some.inj ho
                          have hlen : vs.length = 1 := (hn rfl).trans (by kernel_rfl)
                          obtain ⟨r0, rfl⟩ := vs_list1 hlen
                          show LS _ _ _ _ _ _ _ true _ _ _ _
                          clear hn
                          have e98 : a.tmps[98]?.getD undef = r0 := slot_at (htold 11 _ 98 ⟨⟨11, .data⟩, by simp, rfl, rfl⟩ rfl rfl rfl)
                          obtain ⟨hk9, na, nc, rfl, hr⟩ := hw
                          refine lsn_call (f := 45) (args := #[.slice na nl nc]) rfl ?_ ?_
                          · go_simp
                          · exact (HNm.out u s ii na nc hr).mono (by
                              rintro e u' ⟨rfl, rfl⟩
                              exact ⟨_, rfl, trivial, ⟨hk9, rfl⟩, trivial⟩)
                        | 13, ho =>
                          obtain rfl := Option.some.inj ho
                          have hlen : vs.length = 2 := (hn rfl).trans (by kernel_rfl)
                          obtain ⟨r0, r1, rfl⟩ := vs_list2 hlen
                          show LS _ _ _ _ _ _ _ true _ _ _ _
                          clear hn
                          have e99 : a.tmps[99]?.getD undef = r1 := slot_at (htold 12 _ 99 ⟨⟨12, .data⟩, by simp, rfl, rfl⟩ rfl rfl rfl)
                          obtain ⟨hk9, rfl⟩ := hw
                          refine lsn_value (v := .slice (some ⟨u.heap.size, 0, none⟩) 1 1) (u' := u.alloc (.cells #[.int .i64 ((X s ii : Nat) : Int)] 3)) rfl ?_ trivial ⟨hk9.alloc _, _, rfl, World.cell?_alloc_at _ _ _ _ rfl⟩ trivial
                          go_simp
                        | 14, ho =>
                          obtain rfl := Option.some.inj ho
                          have hlen : vs.length = 3 := (hn rfl).trans (by kernel_rfl)
                          obtain ⟨r0, r1, r2, rfl⟩ := vs_list3 hlen
                          show LS _ _ _ _ _ _ _ true _ _ _ _
                          clear hn
                          have e100 : a.tmps[100]?.getD undef = r2 := slot_at (htold 13 _ 100 ⟨⟨13, .data⟩, by simp, rfl, rfl⟩ rfl rfl rfl)
                          have e94 : a.tmps[94]?.getD undef = .slice ea (NK s ii).length ec := slot_at (hdep ⟨7, .data⟩ (by simp) rfl _ 94 rfl rfl)
                          obtain ⟨hk9, g, rfl, hg⟩ := hw
                          refine ls_none rfl ?_
                          refine op_append1_at (.tmp 94) (.tmp 100) 22 3 rfl Tryz.underlying22 HII.out rfl (HRow.out.kp hk9 (fun _ _ h => h)) (eval_at e94) ⟨g, 0, none⟩ (.int .i64 ((X s ii : Nat) : Int)) (eval_at e100) hg rfl (by rw [iv_natV_len]; omega) (by rw [iv_natV_len]; unfold maxLen; omega) (by have := hk9.size; have := HLo9.out; omega) ?_
                          intro v' u' hO' hgr hat
                          exact ⟨v', rfl, trivial, ⟨u, hk9, hO', hgr, hat⟩, trivial⟩
                        | n + 15, _ => exact (inL_far (N := 15) (by decide) hp).elim
                      case hendW14 =>
                        intro vs a u hlen hI
                        have hsz : a.tmps.size = 104 := hI.size
                        have hdf : a.defers = [] := hI.defers
                        have f0 := hI.o 0 (by kernel_rfl)
                        have f1 := hI.o 1 (by kernel_rfl)
                        have f2 := hI.o 2 (by kernel_rfl)
                        have f3 := hI.o 3 (by kernel_rfl)
                        have f4 := hI.o 4 (by kernel_rfl)
                        have f5 := hI.o 5 (by kernel_rfl)
                        have f6 := hI.o 6 (by kernel_rfl)
                        have f7 := hI.o 7 (by kernel_rfl)
                        have f8 := hI.o 8 (by kernel_rfl)
                        have f9 := hI.o 9 (by kernel_rfl)
                        have f10 := hI.o 10 (by kernel_rfl)
                        have f11 := hI.o 11 (by kernel_rfl)
                        have f12 := hI.o 12 (by kernel_rfl)
                        have f13 := hI.o 13 (by kernel_rfl)
                        have f14 := hI.o 14 (by kernel_rfl)
                        have f15 := hI.o 15 (by kernel_rfl)
                        have f16 := hI.o 16 (by kernel_rfl)
                        have f17 := hI.o 17 (by kernel_rfl)
                        have f18 := hI.o 18 (by kernel_rfl)
                        have f19 := hI.o 19 (by kernel_rfl)
                        have f20 := hI.o 20 (by kernel_rfl)
                        have f21 := hI.o 21 (by kernel_rfl)
                        have f22 := hI.o 22 (by kernel_rfl)
                        have f23 := hI.o 23 (by kernel_rfl)
                        have f24 := hI.o 24 (by kernel_rfl)
                        have f25 := hI.o 25 (by kernel_rfl)
                        have f26 := hI.o 26 (by kernel_rfl)
                        have f27 := hI.o 27 (by kernel_rfl)
                        have f28 := hI.o 28 (by kernel_rfl)
                        have f29 := hI.o 29 (by kernel_rfl)
                        have f30 := hI.o 30 (by kernel_rfl)
                        have f31 := hI.o 31 (by kernel_rfl)
                        have f32 := hI.o 32 (by kernel_rfl)
                        have f33 := hI.o 33 (by kernel_rfl)
                        have f34 := hI.o 34 (by kernel_rfl)
                        have f35 := hI.o 35 (by kernel_rfl)
                        have f36 := hI.o 36 (by kernel_rfl)
                        have f37 := hI.o 37 (by kernel_rfl)
                        have f38 := hI.o 38 (by kernel_rfl)
                        have f39 := hI.o 39 (by kernel_rfl)
                        have f40 := hI.o 40 (by kernel_rfl)
                        have f41 := hI.o 41 (by kernel_rfl)
                        have f42 := hI.o 42 (by kernel_rfl)
                        have f43 := hI.o 43 (by kernel_rfl)
                        have f44 := hI.o 44 (by kernel_rfl)
                        have f45 := hI.o 45 (by kernel_rfl)
                        have f46 := hI.o 46 (by kernel_rfl)
                        have f47 := hI.o 47 (by kernel_rfl)
                        have f48 := hI.o 48 (by kernel_rfl)
                        have f49 := hI.o 49 (by kernel_rfl)
                        have f50 := hI.o 50 (by kernel_rfl)
                        have f51 := hI.o 51 (by kernel_rfl)
                        have f52 := hI.o 52 (by kernel_rfl)
                        have f53 := hI.o 53 (by kernel_rfl)
                        have f54 := hI.o 54 (by kernel_rfl)
                        have f55 := hI.o 55 (by kernel_rfl)
                        have f56 := hI.o 56 (by kernel_rfl)
                        have f57 := hI.o 57 (by kernel_rfl)
                        have f58 := hI.o 58 (by kernel_rfl)
                        have f59 := hI.o 59 (by kernel_rfl)
                        have f60 := hI.o 60 (by kernel_rfl)
                        have f61 := hI.o 61 (by kernel_rfl)
                        have f62 := hI.o 62 (by kernel_rfl)
                        have f63 := hI.o 63 (by kernel_rfl)
                        have f64 := hI.o 64 (by kernel_rfl)
                        have f65 := hI.o 65 (by kernel_rfl)
                        have f66 := hI.o 66 (by kernel_rfl)
                        have f67 := hI.o 67 (by kernel_rfl)
                        have f68 := hI.o 68 (by kernel_rfl)
                        have f69 := hI.o 69 (by kernel_rfl)
                        have f70 := hI.o 70 (by kernel_rfl)
                        have f71 := hI.o 71 (by kernel_rfl)
                        have f72 := hI.o 72 (by kernel_rfl)
                        have f73 := hI.o 73 (by kernel_rfl)
                        have f74 := hI.o 74 (by kernel_rfl)
                        have f75 := hI.o 75 (by kernel_rfl)
                        have f76 := hI.o 76 (by kernel_rfl)
                        have f77 := hI.o 77 (by kernel_rfl)
                        have f78 := hI.o 78 (by kernel_rfl)
                        have f79 := hI.o 79 (by kernel_rfl)
                        have f80 := hI.o 80 (by kernel_rfl)
                        have f81 := hI.o 81 (by kernel_rfl)
                        have f82 := hI.o 82 (by kernel_rfl)
                        have f83 := hI.o 83 (by kernel_rfl)
                        have f84 := hI.o 84 (by kernel_rfl)
                        have f85 := hI.o 85 (by kernel_rfl)
                        have f86 := hI.o 86 (by kernel_rfl)
                        have f102 := hI.o 102 (by kernel_rfl)
                        have f103 := hI.o 103 (by kernel_rfl)
                        obtain ⟨r0, r1, r2, r3, rfl⟩ := vs_list4 hlen
                        have f87 : a.tmps.getD 87 undef = .pointer (some ⟨q, 2, none⟩) := hI.val 0 _ 87 rfl rfl rfl
                        have f88 : a.tmps.getD 88 undef = .slice (some ⟨gD, 0, none⟩) n n := hI.val 1 _ 88 rfl rfl rfl
                        have f89 : a.tmps.getD 89 undef = (.int .i64 (s : Int)) := hI.val 2 _ 89 rfl rfl rfl
                        have f90 : a.tmps.getD 90 undef = .pointer (some ⟨q, 2, none⟩) := hI.val 3 _ 90 rfl rfl rfl
                        have f91 : a.tmps.getD 91 undef = .slice (some ⟨gD, 0, none⟩) n n := hI.val 4 _ 91 rfl rfl rfl
                        have f92 : a.tmps.getD 92 undef = (.int .i64 (s : Int)) := hI.val 5 _ 92 rfl rfl rfl
                        have f93 : a.tmps.getD 93 undef = .pointer (some ⟨gD, s, none⟩) := hI.val 6 _ 93 rfl rfl rfl
                        have f94 : a.tmps.getD 94 undef = .slice ea (NK s ii).length ec := hI.val 7 _ 94 rfl rfl rfl
                        have f95 : a.tmps.getD 95 undef = (.pointer (some ⟨p, 0, none⟩)) := hI.val 8 _ 95 rfl rfl rfl
                        have f96 : a.tmps.getD 96 undef = (.slice sa nl sc) := hI.val 9 _ 96 rfl rfl rfl
                        have f97 : a.tmps.getD 97 undef = (.slice ia ni ic) := hI.val 10 _ 97 rfl rfl rfl
                        have f98 : a.tmps.getD 98 undef = r0 := hI.told 11 _ 98 rfl rfl rfl rfl
                        have f99 : a.tmps.getD 99 undef = r1 := hI.told 12 _ 99 rfl rfl rfl rfl
                        have f100 : a.tmps.getD 100 undef = r2 := hI.told 13 _ 100 rfl rfl rfl rfl
                        have f101 : a.tmps.getD 101 undef = r3 := hI.told 14 _ 101 rfl rfl rfl rfl
                        have ha := act_list104 a hsz
                        rw [hdf, f0, f1, f2, f3, f4, f5, f6, f7, f8, f9, f10, f11, f12, f13, f14, f15, f16, f17, f18, f19, f20, f21, f22, f23, f24, f25, f26, f27, f28, f29, f30, f31, f32, f33, f34, f35, f36, f37, f38, f39, f40, f41, f42, f43, f44, f45, f46, f47, f48, f49, f50, f51, f52, f53, f54, f55, f56, f57, f58, f59, f60, f61, f62, f63, f64, f65, f66, f67, f68, f69, f70, f71, f72, f73, f74, f75, f76, f77, f78, f79, f80, f81, f82, f83, f84, f85, f86, f87, f88, f89, f90, f91, f92, f93, f94, f95, f96, f97, f98, f99, f100, f101, f102, f103] at ha
                        clear hlen
                        have hru := hI.rel
                        have hwu := hI.st
                        clear hI hsz hdf f0 f1 f2 f3 f4 f5 f6 f7 f8 f9 f10 f11 f12 f13 f14 f15 f16 f17 f18 f19 f20 f21 f22 f23 f24 f25 f26 f27 f28 f29 f30 f31 f32 f33 f34 f35 f36 f37 f38 f39 f40 f41 f42 f43 f44 f45 f46 f47 f48 f49 f50 f51 f52 f53 f54 f55 f56 f57 f58 f59 f60 f61 f62 f63 f64 f65 f66 f67 f68 f69 f70 f71 f72 f73 f74 f75 f76 f77 f78 f79 f80 f81 f82 f83 f84 f85 f86 f87 f88 f89 f90 f91 f92 f93 f94 f95 f96 f97 f98 f99 f100 f101 f102 f103 
                        subst ha
                        refine wpAny_tailO [15, 16] rfl rfl (by kernel_rfl) ?_
                        simp only [opsAt, List.filterMap_cons, List.filterMap_nil, List.getElem?_toArray, List.getElem?_cons_zero, List.getElem?_cons_succ]
                        simp only [Array.getD_eq_getD_getElem?, List.getElem?_toArray, List.getElem?_cons_zero, List.getElem?_cons_succ, Option.getD_some]
                        have hka := hwu.all
                        obtain ⟨w10, hk10, hO10, hg10, hat10⟩ := hwu
                        obtain ⟨aN, cN, eN, -⟩ := hO10.form
                        rw [List.length_append, List.length_singleton, iv_natV_len] at eN
                        subst eN
                        have hBd := HW9.out.rows.blk.kp hka (fun e => HDo.out e)
                        have y1 := hBd.cell (i := s) (v := R s) (by have := rowF_at (f := R) hlt; simpa using this)
                        have z1 := hBd.free s
                        rw [HRv.out] at y1
                        obtain ⟨hWp, hkp⟩ := HW9.out.push (x := ((X s ii : Nat) : Int)) hlt hk10 (by rw [show up1 (fun t => if t < s then natV (sN t) else []) s (natV (NK s ii)) s = natV (NK s ii) from up1_at _ _ _]; exact hO10) (by rw [HRv.out]; exact hg10) (by rw [HRv.out]; exact hat10)
                        have HWp := Lib.hid hWp
                        have HOp := Lib.hid (HO9.out.kp hkp (fun j hj e => by
                          rcases e with e | e
                          · exact own_ne_blk HO9.out HW9.out.rows.blk (by decide) j hj e
                          · rw [HRv.out] at e
                            exact own_ne_own2 HO9.out HRow.out (by decide) j hj e))
                        have HKp := Lib.hid (HK9.out.trans hkp (fun j h1 e => by
                          have := HLo.out
                          rcases e with e | e
                          · have := HW9.out.rows.lo; omega
                          · have := ((HW9.out.rows.ow s hlt).lt j e).1; omega))
                        clear hka hk10 hO10 hg10 hat10 hBd hWp hkp hru
                        go_wp2_with fail
                        go_roundw
                        case rel =>
                          refine ⟨ii + 1, _, by go_num, by omega, HWp.out.congr (fun _ _ => rfl) (fun _ _ => rfl) (fun t _ => ?_), HOp.out, HKp.out⟩
                          rw [HNp.out s ii HHe.out]
                          unfold up1
                          by_cases e : t = s
                          · rw [if_pos e, if_pos e, if_pos rfl]; simp [natV]
                          · rw [if_neg e, if_neg e, if_neg e]
                        case measure => simp [intOf]; omega
                  · go_upto_region 13 with (go_at_call 43; refine Calls.mono HHo5.out ?_; rintro e w7 ⟨rfl, hk7⟩; have HK57 := Lib.hid hk7; have HK7 := Lib.hid (HK5.out.trans hk7 (fun _ _ h => h)); have HW7 := Lib.hid (HW5.out.kp hk7); have HO7 := Lib.hid (HO5.out.kp hk7 (fun _ _ h => h)); have HI7 := Lib.hid (HI5.out.kp hk7 (fun _ _ h => h)); clear hk7)
                    refine wp_region_looseG (p := upTo 16) (V := atV [EqV (.pointer (some ⟨q, 1, none⟩)), EqV (.slice (some ⟨gB, 0, none⟩) n n), EqV ((.int .i64 (s : Int))), EqV (.pointer (some ⟨q, 1, none⟩)), EqV (.slice (some ⟨gB, 0, none⟩) n n), EqV ((.int .i64 (s : Int))), EqV (.pointer (some ⟨gB, s, none⟩)), EqV (.bool true), EqV (.bool true), EqV (undef), EqV (undef), EqV (undef), EqV (undef), EqV (undef), EqV (.bool true), EqV (.pointer (some ⟨gB, s, none⟩))]) (LP := #[true, true, true, true, true, true, true, true, true, true, true, true, true, true, true, true, false]) (K := 1) (by kernel_rfl) (by kernel_rfl) (atV_st ?hstW13T) ?hstepW13T (by kernel_rfl) ?hLPW13T (by kernel_rfl) ?hendW13T
                    case hstW13T =>
                      intro W h
                      simp only [List.mem_cons, List.not_mem_nil, or_false] at h
                      rcases h with rfl | rfl | rfl | rfl | rfl | rfl | rfl | rfl | rfl | rfl | rfl | rfl | rfl | rfl | rfl | rfl <;> first | exact EqV.st _ | exact LitC.st _ _ _ _ | exact Made3.st _ _ | exact NewC.st _ _ _
                    case hLPW13T => exact upTo_spec (by kernel_rfl)
                    case hstepW13T =>
                      intro i o ho hp a u hk hoff hdep
                      have e0 : a.tmps[0]?.getD undef = (.pointer (some ⟨p, 0, none⟩)) := slot_at (hoff 0 (noDst_spec (by kernel_rfl)))
                      have e1 : a.tmps[1]?.getD undef = (.int .i64 pr) := slot_at (hoff 1 (noDst_spec (by kernel_rfl)))
                      have e7 : a.tmps[7]?.getD undef = (.pointer (some ⟨q, 0, none⟩)) := slot_at (hoff 7 (noDst_spec (by kernel_rfl)))
                      have e8 : a.tmps[8]?.getD undef = (.int .i64 (s : Int)) := slot_at (hoff 8 (noDst_spec (by kernel_rfl)))
                      have e9 : a.tmps[9]?.getD undef = (.slice sa nl sc) := slot_at (hoff 9 (noDst_spec (by kernel_rfl)))
                      have e11 : a.tmps[11]?.getD undef = (.slice ia ni ic) := slot_at (hoff 11 (noDst_spec (by kernel_rfl)))
                      clear hoff
                      match i, ho with
                      | 0, ho =>
                        obtain rfl := Option.some.inj ho
                        refine lg_none rfl ?_
                        refine lw_value (v := .pointer (some ⟨q, 1, none⟩)) (u' := u) ?_ (Kp.refl _ _) rfl
                        go_simp
                      | 1, ho =>
                        obtain rfl := Option.some.inj ho
                        have e71 : a.tmps[71]?.getD undef = .pointer (some ⟨q, 1, none⟩) := slot_at (hdep ⟨0, .data⟩ (by simp) rfl _ 71 rfl rfl)
                        refine lg_none rfl ?_
                        have c1 := (HW7.out.all.kp hk (fun h => h)).cell (i := 1) (v := .slice (some ⟨gB, 0, none⟩) n n) rfl
                        refine lw_value (v := .slice (some ⟨gB, 0, none⟩) n n) (u' := u) ?_ (Kp.refl _ _) rfl
                        go_simp
                      | 2, ho =>
                        obtain rfl := Option.some.inj ho
                        refine lg_none rfl ?_
                        refine lw_value (v := (.int .i64 (s : Int))) (u' := u) ?_ (Kp.refl _ _) rfl
                        go_simp
                      | 3, ho =>
                        obtain rfl := Option.some.inj ho
                        refine lg_none rfl ?_
                        refine lw_value (v := .pointer (some ⟨q, 1, none⟩)) (u' := u) ?_ (Kp.refl _ _) rfl
                        go_simp
                      | 4, ho =>
                        obtain rfl := Option.some.inj ho
                        have e74 : a.tmps[74]?.getD undef = .pointer (some ⟨q, 1, none⟩) := slot_at (hdep ⟨3, .data⟩ (by simp) rfl _ 74 rfl rfl)
                        refine lg_none rfl ?_
                        have c1 := (HW7.out.all.kp hk (fun h => h)).cell (i := 1) (v := .slice (some ⟨gB, 0, none⟩) n n) rfl
                        refine lw_value (v := .slice (some ⟨gB, 0, none⟩) n n) (u' := u) ?_ (Kp.refl _ _) rfl
                        go_simp
                      | 5, ho =>
                        obtain rfl := Option.some.inj ho
                        refine lg_none rfl ?_
                        refine lw_value (v := (.int .i64 (s : Int))) (u' := u) ?_ (Kp.refl _ _) rfl
                        go_simp
                      | 6, ho =>
                        obtain rfl := Option.some.inj ho
                        have e75 : a.tmps[75]?.getD undef = .slice (some ⟨gB, 0, none⟩) n n := slot_at (hdep ⟨4, .data⟩ (by simp) rfl _ 75 rfl rfl)
                        have e76 : a.tmps[76]?.getD undef = (.int .i64 (s : Int)) := slot_at (hdep ⟨5, .data⟩ (by simp) rfl _ 76 rfl rfl)
                        refine lg_none rfl ?_
                        refine lw_value (v := .pointer (some ⟨gB, s, none⟩)) (u' := u) ?_ (Kp.refl _ _) rfl
                        go_simp
                      | 7, ho =>
                        obtain rfl := Option.some.inj ho
                        have e77 : a.tmps[77]?.getD undef = .pointer (some ⟨gB, s, none⟩) := slot_at (hdep ⟨6, .data⟩ (by simp) rfl _ 77 rfl rfl)
                        refine lg_none rfl ?_
                        have c1 := (HW7.out.bb.kp hk (fun h => h)).at hlt
                        rw [show upB (fun t => decide (t < s) && sB t) s true s = true from if_pos rfl] at c1
                        refine lw_value (v := .bool true) (u' := u) ?_ (Kp.refl _ _) rfl
                        go_simp
                      | 8, ho =>
                        obtain rfl := Option.some.inj ho
                        have e78 : a.tmps[78]?.getD undef = .bool true := slot_at (hdep ⟨7, .data⟩ (by simp) rfl _ 78 rfl rfl)
                        refine lg_none rfl ?_
                        refine lw_value (v := .bool true) (u' := u) ?_ (Kp.refl _ _) rfl
                        go_simp
                      | 9, ho =>
                        obtain rfl := Option.some.inj ho
                        have e79 : a.tmps[79]?.getD undef = .bool true := slot_at (hdep ⟨8, .guard⟩ (by simp) rfl _ 79 rfl rfl)
                        exact lg_off (x := 79) rfl rfl e79 rfl rfl
                      | 10, ho =>
                        obtain rfl := Option.some.inj ho
                        have e79 : a.tmps[79]?.getD undef = .bool true := slot_at (hdep ⟨8, .guard⟩ (by simp) rfl _ 79 rfl rfl)
                        exact lg_off (x := 79) rfl rfl e79 rfl rfl
                      | 11, ho =>
                        obtain rfl := Option.some.inj ho
                        have e79 : a.tmps[79]?.getD undef = .bool true := slot_at (hdep ⟨8, .guard⟩ (by simp) rfl _ 79 rfl rfl)
                        exact lg_off (x := 79) rfl rfl e79 rfl rfl
                      | 12, ho =>
                        obtain rfl := Option.some.inj ho
                        have e79 : a.tmps[79]?.getD undef = .bool true := slot_at (hdep ⟨8, .guard⟩ (by simp) rfl _ 79 rfl rfl)
                        exact lg_off (x := 79) rfl rfl e79 rfl rfl
                      | 13, ho =>
                        obtain rfl := Option.some.inj ho
                        have e79 : a.tmps[79]?.getD undef = .bool true := slot_at (hdep ⟨8, .chain⟩ (by simp) rfl _ 79 rfl rfl)
                        exact lg_off (x := 79) rfl rfl e79 rfl rfl
                      | 14, ho =>
                        obtain rfl := Option.some.inj ho
                        have e79 : a.tmps[79]?.getD undef = .bool true := slot_at (hdep ⟨8, .data⟩ (by simp) rfl _ 79 rfl rfl)
                        have e84 : a.tmps[84]?.getD undef = undef := slot_at (hdep ⟨13, .data⟩ (by simp) rfl _ 84 rfl rfl)
                        refine lg_none rfl ?_
                        refine lw_value (v := .bool true) (u' := u) ?_ (Kp.refl _ _) rfl
                        go_simp
                      | 15, ho =>
                        obtain rfl := Option.some.inj ho
                        have e72 : a.tmps[72]?.getD undef = .slice (some ⟨gB, 0, none⟩) n n := slot_at (hdep ⟨1, .data⟩ (by simp) rfl _ 72 rfl rfl)
                        have e73 : a.tmps[73]?.getD undef = (.int .i64 (s : Int)) := slot_at (hdep ⟨2, .data⟩ (by simp) rfl _ 73 rfl rfl)
                        refine lg_none rfl ?_
                        refine lw_value (v := .pointer (some ⟨gB, s, none⟩)) (u' := u) ?_ (Kp.refl _ _) rfl
                        go_simp
                      | n + 16, _ => exact absurd hp (by simp [upTo])
                    case hendW13T =>
                      intro a u hI
                      have hsz : a.tmps.size = 104 := hI.size
                      have hdf : a.defers = [] := hI.defers
                      have f0 := hI.o 0 (by kernel_rfl)
                      have f1 := hI.o 1 (by kernel_rfl)
                      have f2 := hI.o 2 (by kernel_rfl)
                      have f3 := hI.o 3 (by kernel_rfl)
                      have f4 := hI.o 4 (by kernel_rfl)
                      have f5 := hI.o 5 (by kernel_rfl)
                      have f6 := hI.o 6 (by kernel_rfl)
                      have f7 := hI.o 7 (by kernel_rfl)
                      have f8 := hI.o 8 (by kernel_rfl)
                      have f9 := hI.o 9 (by kernel_rfl)
                      have f10 := hI.o 10 (by kernel_rfl)
                      have f11 := hI.o 11 (by kernel_rfl)
                      have f12 := hI.o 12 (by kernel_rfl)
                      have f13 := hI.o 13 (by kernel_rfl)
                      have f14 := hI.o 14 (by kernel_rfl)
                      have f15 := hI.o 15 (by kernel_rfl)
                      have f16 := hI.o 16 (by kernel_rfl)
                      have f17 := hI.o 17 (by kernel_rfl)
                      have f18 := hI.o 18 (by kernel_rfl)
                      have f19 := hI.o 19 (by kernel_rfl)
                      have f20 := hI.o 20 (by kernel_rfl)
                      have f21 := hI.o 21 (by kernel_rfl)
                      have f22 := hI.o 22 (by kernel_rfl)
                      have f23 := hI.o 23 (by kernel_rfl)
                      have f24 := hI.o 24 (by kernel_rfl)
                      have f25 := hI.o 25 (by kernel_rfl)
                      have f26 := hI.o 26 (by kernel_rfl)
                      have f27 := hI.o 27 (by kernel_rfl)
                      have f28 := hI.o 28 (by kernel_rfl)
                      have f29 := hI.o 29 (by kernel_rfl)
                      have f30 := hI.o 30 (by kernel_rfl)
                      have f31 := hI.o 31 (by kernel_rfl)
                      have f32 := hI.o 32 (by kernel_rfl)
                      have f33 := hI.o 33 (by kernel_rfl)
                      have f34 := hI.o 34 (by kernel_rfl)
                      have f35 := hI.o 35 (by kernel_rfl)
                      have f36 := hI.o 36 (by kernel_rfl)
                      have f37 := hI.o 37 (by kernel_rfl)
                      have f38 := hI.o 38 (by kernel_rfl)
                      have f39 := hI.o 39 (by kernel_rfl)
                      have f40 := hI.o 40 (by kernel_rfl)
                      have f41 := hI.o 41 (by kernel_rfl)
                      have f42 := hI.o 42 (by kernel_rfl)
                      have f43 := hI.o 43 (by kernel_rfl)
                      have f44 := hI.o 44 (by kernel_rfl)
                      have f45 := hI.o 45 (by kernel_rfl)
                      have f46 := hI.o 46 (by kernel_rfl)
                      have f47 := hI.o 47 (by kernel_rfl)
                      have f48 := hI.o 48 (by kernel_rfl)
                      have f49 := hI.o 49 (by kernel_rfl)
                      have f50 := hI.o 50 (by kernel_rfl)
                      have f51 := hI.o 51 (by kernel_rfl)
                      have f52 := hI.o 52 (by kernel_rfl)
                      have f53 := hI.o 53 (by kernel_rfl)
                      have f54 := hI.o 54 (by kernel_rfl)
                      have f55 := hI.o 55 (by kernel_rfl)
                      have f56 := hI.o 56 (by kernel_rfl)
                      have f57 := hI.o 57 (by kernel_rfl)
                      have f58 := hI.o 58 (by kernel_rfl)
                      have f59 := hI.o 59 (by kernel_rfl)
                      have f60 := hI.o 60 (by kernel_rfl)
                      have f61 := hI.o 61 (by kernel_rfl)
                      have f62 := hI.o 62 (by kernel_rfl)
                      have f63 := hI.o 63 (by kernel_rfl)
                      have f64 := hI.o 64 (by kernel_rfl)
                      have f65 := hI.o 65 (by kernel_rfl)
                      have f66 := hI.o 66 (by kernel_rfl)
                      have f67 := hI.o 67 (by kernel_rfl)
                      have f68 := hI.o 68 (by kernel_rfl)
                      have f69 := hI.o 69 (by kernel_rfl)
                      have f70 := hI.o 70 (by kernel_rfl)
                      have f87 := hI.o 87 (by kernel_rfl)
                      have f88 := hI.o 88 (by kernel_rfl)
                      have f89 := hI.o 89 (by kernel_rfl)
                      have f90 := hI.o 90 (by kernel_rfl)
                      have f91 := hI.o 91 (by kernel_rfl)
                      have f92 := hI.o 92 (by kernel_rfl)
                      have f93 := hI.o 93 (by kernel_rfl)
                      have f94 := hI.o 94 (by kernel_rfl)
                      have f95 := hI.o 95 (by kernel_rfl)
                      have f96 := hI.o 96 (by kernel_rfl)
                      have f97 := hI.o 97 (by kernel_rfl)
                      have f98 := hI.o 98 (by kernel_rfl)
                      have f99 := hI.o 99 (by kernel_rfl)
                      have f100 := hI.o 100 (by kernel_rfl)
                      have f101 := hI.o 101 (by kernel_rfl)
                      have f102 := hI.o 102 (by kernel_rfl)
                      have f103 := hI.o 103 (by kernel_rfl)
                      have f71 : a.tmps.getD 71 undef = .pointer (some ⟨q, 1, none⟩) := hI.val 0 _ 71 rfl rfl rfl
                      have f72 : a.tmps.getD 72 undef = .slice (some ⟨gB, 0, none⟩) n n := hI.val 1 _ 72 rfl rfl rfl
                      have f73 : a.tmps.getD 73 undef = (.int .i64 (s : Int)) := hI.val 2 _ 73 rfl rfl rfl
                      have f74 : a.tmps.getD 74 undef = .pointer (some ⟨q, 1, none⟩) := hI.val 3 _ 74 rfl rfl rfl
                      have f75 : a.tmps.getD 75 undef = .slice (some ⟨gB, 0, none⟩) n n := hI.val 4 _ 75 rfl rfl rfl
                      have f76 : a.tmps.getD 76 undef = (.int .i64 (s : Int)) := hI.val 5 _ 76 rfl rfl rfl
                      have f77 : a.tmps.getD 77 undef = .pointer (some ⟨gB, s, none⟩) := hI.val 6 _ 77 rfl rfl rfl
                      have f78 : a.tmps.getD 78 undef = .bool true := hI.val 7 _ 78 rfl rfl rfl
                      have f79 : a.tmps.getD 79 undef = .bool true := hI.val 8 _ 79 rfl rfl rfl
                      have f80 : a.tmps.getD 80 undef = undef := hI.val 9 _ 80 rfl rfl rfl
                      have f81 : a.tmps.getD 81 undef = undef := hI.val 10 _ 81 rfl rfl rfl
                      have f82 : a.tmps.getD 82 undef = undef := hI.val 11 _ 82 rfl rfl rfl
                      have f83 : a.tmps.getD 83 undef = undef := hI.val 12 _ 83 rfl rfl rfl
                      have f84 : a.tmps.getD 84 undef = undef := hI.val 13 _ 84 rfl rfl rfl
                      have f85 : a.tmps.getD 85 undef = .bool true := hI.val 14 _ 85 rfl rfl rfl
                      have f86 : a.tmps.getD 86 undef = .pointer (some ⟨gB, s, none⟩) := hI.val 15 _ 86 rfl rfl rfl
                      have ha := act_list104 a hsz
                      rw [hdf, f0, f1, f2, f3, f4, f5, f6, f7, f8, f9, f10, f11, f12, f13, f14, f15, f16, f17, f18, f19, f20, f21, f22, f23, f24, f25, f26, f27, f28, f29, f30, f31, f32, f33, f34, f35, f36, f37, f38, f39, f40, f41, f42, f43, f44, f45, f46, f47, f48, f49, f50, f51, f52, f53, f54, f55, f56, f57, f58, f59, f60, f61, f62, f63, f64, f65, f66, f67, f68, f69, f70, f71, f72, f73, f74, f75, f76, f77, f78, f79, f80, f81, f82, f83, f84, f85, f86, f87, f88, f89, f90, f91, f92, f93, f94, f95, f96, f97, f98, f99, f100, f101, f102, f103] at ha
                      have hku := hI.kp
                      clear hI hsz hdf f0 f1 f2 f3 f4 f5 f6 f7 f8 f9 f10 f11 f12 f13 f14 f15 f16 f17 f18 f19 f20 f21 f22 f23 f24 f25 f26 f27 f28 f29 f30 f31 f32 f33 f34 f35 f36 f37 f38 f39 f40 f41 f42 f43 f44 f45 f46 f47 f48 f49 f50 f51 f52 f53 f54 f55 f56 f57 f58 f59 f60 f61 f62 f63 f64 f65 f66 f67 f68 f69 f70 f71 f72 f73 f74 f75 f76 f77 f78 f79 f80 f81 f82 f83 f84 f85 f86 f87 f88 f89 f90 f91 f92 f93 f94 f95 f96 f97 f98 f99 f100 f101 f102 f103 
                      subst ha
                      refine wpAny_tail 16 rfl (by kernel_rfl) ?_
                      simp only [List.drop_succ_cons, List.drop_zero]
                      simp only [Array.getD_eq_getD_getElem?, List.getElem?_toArray, List.getElem?_cons_zero, List.getElem?_cons_succ, Option.getD_some]
                      have HWu := HW7.out.kp hku
                      have y0 := HWu.bb.at hlt
                      have z0 := HWu.bb.free s
                      obtain ⟨hW8, hk8⟩ := HWu.setB s (true)
                      obtain ⟨w9, hw9⟩ : ∃ w9, w9 = u.setCell ⟨gB, s, none⟩ (.bool (true)) := ⟨_, rfl⟩
                      rw [← hw9] at hW8 hk8
                      have HO9 := Lib.hid ((HO7.out.kp hku (fun _ _ h => h)).kp hk8 (fun j hj e => by have := (HO7.out.lt j hj).1; have := HLa.out.2; omega))
                      have HI9 := Lib.hid ((HI7.out.kp hku (fun _ _ h => h)).kp hk8 (fun j hj e => by have := (HI7.out.lt j hj).1; have := HLb.out; omega))
                      have HW9 := Lib.hid (hW8.congr (fS' := fun t => decide (t < s + 1) && sS t) (fB' := upB (fun t => decide (t < s) && sB t) s (BK s (ii + 1))) (fun _ _ => rfl) (fun t _ => by
                        unfold upB
                        by_cases e : t = s
                        · rw [if_pos e, if_pos e, HDn.out]; rfl
                        · rw [if_neg e, if_neg e, if_neg e]) (fun _ _ => rfl))
                      have HK9 := Lib.hid ((HK7.out.trans hku (fun _ _ h => h)).trans hk8 (fun j h1 e => by have := HWu.lb; have := HLo.out; omega))
                      clear HWu hW8 hk8 hku
                      go_upto_region 14 with fail
                      rw [← hw9]
                      clear hw9 y0 z0 HO7 HI7 HW7 HK7 HK57
                      obtain ⟨ea, ec, hRv, -⟩ := (HW9.out.rows.ow s hlt).form
                      rw [iv_length, show up1 (fun t => if t < s then natV (sN t) else []) s (natV (NK s ii)) s = natV (NK s ii) from up1_at _ _ _, natV_len] at hRv
                      have HRv := Lib.hid hRv
                      have HRow := Lib.hid (show Own w9 lo 3 (.slice ea (NK s ii).length ec) (iv (natV (NK s ii))) by
                        have := HW9.out.rows.ow s hlt
                        rw [show up1 (fun t => if t < s then natV (sN t) else []) s (natV (NK s ii)) s = natV (NK s ii) from up1_at _ _ _, hRv] at this
                        exact this)
                      have HQo := Lib.hid (show ¬ (Value.slice ea (NK s ii).length ec).ownBlock = some q from fun e => own_ne_blk HRow.out HW9.out.all (by decide) q e rfl)
                      have HDo := Lib.hid (show ¬ (Value.slice ea (NK s ii).length ec).ownBlock = some gD from fun e => own_ne_blk HRow.out HW9.out.rows.blk (by decide) gD e rfl)
                      have hNl := HNl.out s ii
                      have HLo9 := Lib.hid (show lo ≤ w9.heap.size from by have := HW9.out.la; have := HW9.out.ba.lt; omega)
                      clear hRv
                      refine wp_region_looseS (p := (inL [0, 1, 2, 3, 4, 5, 6, 7, 8, 9, 10, 11, 12, 13, 14])) (V := atV [EqV (.pointer (some ⟨q, 2, none⟩)), EqV (.slice (some ⟨gD, 0, none⟩) n n), EqV ((.int .i64 (s : Int))), EqV (.pointer (some ⟨q, 2, none⟩)), EqV (.slice (some ⟨gD, 0, none⟩) n n), EqV ((.int .i64 (s : Int))), EqV (.pointer (some ⟨gD, s, none⟩)), EqV (.slice ea (NK s ii).length ec), EqV ((.pointer (some ⟨p, 0, none⟩))), EqV ((.slice sa nl sc)), EqV ((.slice ia ni ic)), AnyV, AnyV, AnyV, AnyV]) (R := (fun _ _ => True)) (W := (WN w9 lo nl ((X s ii : Nat) : Int) (nextM C (stN C s) (inN2 C ii)) (natV (NK s ii)) (Value.slice ea (NK s ii).length ec).ownBlock)) (c := (inL [11, 12, 13, 14])) (LP := #[true, true, true, true, true, true, true, true, true, true, true, true, true, true, true, false, false]) (K := 2) (N := 4) (by kernel_rfl) (by kernel_rfl) (by kernel_rfl) trivial ((Kp.refl _ _).drew) (fun _ _ _ _ _ => trivial) (atV_stR ?hstW14) ?hstepW14 (by kernel_rfl) ?hLPW14 (by kernel_rfl) (by kernel_rfl) ?hendW14
                      case hstW14 =>
                        intro V h
                        simp only [List.mem_cons, List.not_mem_nil, or_false] at h
                        rcases h with rfl | rfl | rfl | rfl | rfl | rfl | rfl | rfl | rfl | rfl | rfl | rfl | rfl | rfl | rfl <;> intro u u' v k h <;> first | exact h | exact trivial | exact EqV.st _
                      case hLPW14 => exact pOf_spec (by kernel_rfl)
                      case hstepW14 =>
                        intro i o ho hp vs a u hk hw hn hub htold hoff hdep
                        have e0 : a.tmps[0]?.getD undef = (.pointer (some ⟨p, 0, none⟩)) := slot_at (hoff 0 (noDst_spec (by kernel_rfl)))
                        have e7 : a.tmps[7]?.getD undef = (.pointer (some ⟨q, 0, none⟩)) := slot_at (hoff 7 (noDst_spec (by kernel_rfl)))
                        have e8 : a.tmps[8]?.getD undef = (.int .i64 (s : Int)) := slot_at (hoff 8 (noDst_spec (by kernel_rfl)))
                        have e9 : a.tmps[9]?.getD undef = (.slice sa nl sc) := slot_at (hoff 9 (noDst_spec (by kernel_rfl)))
                        have e11 : a.tmps[11]?.getD undef = (.slice ia ni ic) := slot_at (hoff 11 (noDst_spec (by kernel_rfl)))
                        clear hoff
                        match i, ho with
                        | 0, ho =>
                          obtain rfl := Option.some.inj ho
                          show LS _ _ _ _ _ _ _ false _ _ _ _
                          clear hn
                          refine lsn_value (v := .pointer (some ⟨q, 2, none⟩)) (u' := u) rfl ?_ trivial hw rfl
                          go_simp
                        | 1, ho =>
                          obtain rfl := Option.some.inj ho
                          show LS _ _ _ _ _ _ _ false _ _ _ _
                          clear hn
                          have e87 : a.tmps[87]?.getD undef = .pointer (some ⟨q, 2, none⟩) := slot_at (hdep ⟨0, .data⟩ (by simp) rfl _ 87 rfl rfl)
                          have c1 := (HW9.out.all.kp hw.all (fun e => HQo.out e)).cell (i := 2) (v := .slice (some ⟨gD, 0, none⟩) n n) rfl
                          refine lsn_value (v := .slice (some ⟨gD, 0, none⟩) n n) (u' := u) rfl ?_ trivial hw rfl
                          go_simp
                        | 2, ho =>
                          obtain rfl := Option.some.inj ho
                          show LS _ _ _ _ _ _ _ false _ _ _ _
                          clear hn
                          refine lsn_value (v := (.int .i64 (s : Int))) (u' := u) rfl ?_ trivial hw rfl
                          go_simp
                        | 3, ho =>
                          obtain rfl := Option.some.inj ho
                          show LS _ _ _ _ _ _ _ false _ _ _ _
                          clear hn
                          refine lsn_value (v := .pointer (some ⟨q, 2, none⟩)) (u' := u) rfl ?_ trivial hw rfl
                          go_simp
                        | 4, ho =>
                          obtain rfl := Option.some.inj ho
                          show LS _ _ _ _ _ _ _ false _ _ _ _
                          clear hn
                          have e90 : a.tmps[90]?.getD undef = .pointer (some ⟨q, 2, none⟩) := slot_at (hdep ⟨3, .data⟩ (by simp) rfl _ 90 rfl rfl)
                          have c1 := (HW9.out.all.kp hw.all (fun e => HQo.out e)).cell (i := 2) (v := .slice (some ⟨gD, 0, none⟩) n n) rfl
                          refine lsn_value (v := .slice (some ⟨gD, 0, none⟩) n n) (u' := u) rfl ?_ trivial hw rfl
                          go_simp
                        | 5, ho =>
                          obtain rfl := Option.some.inj ho
                          show LS _ _ _ _ _ _ _ false _ _ _ _
                          clear hn
                          refine lsn_value (v := (.int .i64 (s : Int))) (u' := u) rfl ?_ trivial hw rfl
                          go_simp
                        | 6, ho =>
                          obtain rfl := Option.some.inj ho
                          show LS _ _ _ _ _ _ _ false _ _ _ _
                          clear hn
                          have e91 : a.tmps[91]?.getD undef = .slice (some ⟨gD, 0, none⟩) n n := slot_at (hdep ⟨4, .data⟩ (by simp) rfl _ 91 rfl rfl)
                          have e92 : a.tmps[92]?.getD undef = (.int .i64 (s : Int)) := slot_at (hdep ⟨5, .data⟩ (by simp) rfl _ 92 rfl rfl)
                          refine lsn_value (v := .pointer (some ⟨gD, s, none⟩)) (u' := u) rfl ?_ trivial hw rfl
                          go_simp
                        | 7, ho =>
                          obtain rfl := Option.some.inj ho
                          show LS _ _ _ _ _ _ _ false _ _ _ _
                          clear hn
                          have e93 : a.tmps[93]?.getD undef = .pointer (some ⟨gD, s, none⟩) := slot_at (hdep ⟨6, .data⟩ (by simp) rfl _ 93 rfl rfl)
                          have hl3 : vs.length ≤ 3 := hub 14 (by decide) rfl (by decide +kernel)
                          have c1 := (HW9.out.rows.kp (hw.early hl3)).cell hlt
                          rw [HRv.out] at c1
                          refine lsn_value (v := .slice ea (NK s ii).length ec) (u' := u) rfl ?_ trivial hw rfl
                          go_simp
                        | 8, ho =>
                          obtain rfl := Option.some.inj ho
                          show LS _ _ _ _ _ _ _ false _ _ _ _
                          clear hn
                          refine lsn_value (v := (.pointer (some ⟨p, 0, none⟩))) (u' := u) rfl ?_ trivial hw rfl
                          go_simp
                        | 9, ho =>
                          obtain rfl := Option.some.inj ho
                          show LS _ _ _ _ _ _ _ false _ _ _ _
                          clear hn
                          refine lsn_value (v := (.slice sa nl sc)) (u' := u) rfl ?_ trivial hw rfl
                          go_simp
                        | 10, ho =>
                          obtain rfl := Option.some.inj ho
                          show LS _ _ _ _ _ _ _ false _ _ _ _
                          clear hn
                          refine lsn_value (v := (.slice ia ni ic)) (u' := u) rfl ?_ trivial hw rfl
                          go_simp
                        | 11, ho =>
                          obtain rfl := Option.some.inj ho
                          have hlen : vs.length = 0 := (hn rfl).trans (by kernel_rfl)
                          obtain rfl : vs = [] := List.eq_nil_of_length_eq_zero hlen
                          show LS _ _ _ _ _ _ _ true _ _ _ _
                          clear hn
                          have e95 : a.tmps[95]?.getD undef = (.pointer (some ⟨p, 0, none⟩)) := slot_at (hdep ⟨8, .data⟩ (by simp) rfl _ 95 rfl rfl)
                          have e96 : a.tmps[96]?.getD undef = (.slice sa nl sc) := slot_at (hdep ⟨9, .data⟩ (by simp) rfl _ 96 rfl rfl)
                          have e97 : a.tmps[97]?.getD undef = (.slice ia ni ic) := slot_at (hdep ⟨10, .data⟩ (by simp) rfl _ 97 rfl rfl)
                          have hk9 : Kp (fun _ => False) w9 u := hw
                          refine lsn_call (f := 46) (args := #[.pointer (some ⟨p, 0, none⟩), .slice sa nl sc, .slice ia ni ic]) rfl ?_ ?_
                          · go_simp
                          · exact (HNx.out u (HK9.out.trans hk9 (fun _ _ h => h)) s ii sa sc ia ic (HBs.out _ _ _ _ _ (HO9.out.kp hk9 (fun _ _ h => h))) (HIs.out _ _ _ _ _ (HI9.out.kp hk9 (fun _ _ h => h)))).mono (by
                              rintro e u' ⟨na, nc, rfl, hr, hK⟩
                              exact ⟨_, rfl, trivial, ⟨hk9.trans hK (fun _ _ h => h), na, nc, rfl, hr⟩, trivial⟩)
                        | 12, ho =>
                          obtain rfl := Option.some.inj ho
                          have hlen : vs.length = 1 := (hn rfl).trans (by kernel_rfl)
                          obtain ⟨r0, rfl⟩ := vs_list1 hlen
                          show LS _ _ _ _ _ _ _ true _ _ _ _
                          clear hn
                          have e98 : a.tmps[98]?.getD undef = r0 := slot_at (htold 11 _ 98 ⟨⟨11, .data⟩, by simp, rfl, rfl⟩ rfl rfl rfl)
                          obtain ⟨hk9, na, nc, rfl, hr⟩ := hw
                          refine lsn_call (f := 45) (args := #[.slice na nl nc]) rfl ?_ ?_
                          · go_simp
                          · exact (HNm.out u s ii na nc hr).mono (by
                              rintro e u' ⟨rfl, rfl⟩
                              exact ⟨_, rfl, trivial, ⟨hk9, rfl⟩, trivial⟩)
                        | 13, ho =>
                          obtain rfl := Option.some.inj ho
                          have hlen : vs.length = 2 := (hn rfl).trans (by kernel_rfl)
                          obtain ⟨r0, r1, rfl⟩ := vs_list2 hlen
                          show LS _ _ _ _ _ _ _ true _ _ _ _
                          clear hn
                          have e99 : a.tmps[99]?.getD undef = r1 := slot_at (htold 12 _ 99 ⟨⟨12, .data⟩, by simp, rfl, rfl⟩ rfl rfl rfl)
                          obtain ⟨hk9, rfl⟩ := hw
                          refine lsn_value (v := .slice (some ⟨u.heap.size, 0, none⟩) 1 1) (u' := u.alloc (.cells #[.int .i64 ((X s ii : Nat) : Int)] 3)) rfl ?_ trivial ⟨hk9.alloc _, _, rfl, World.cell?_alloc_at _ _ _ _ rfl⟩ trivial
                          go_simp
                        | 14, ho =>
                          obtain rfl := Option.some.inj ho
                          have hlen : vs.length = 3 := (hn rfl).trans (by kernel_rfl)
                          obtain ⟨r0, r1, r2, rfl⟩ := vs_list3 hlen
                          show LS _ _ _ _ _ _ _ true _ _ _ _
                          clear hn
                          have e100 : a.tmps[100]?.getD undef = r2 := slot_at (htold 13 _ 100 ⟨⟨13, .data⟩, by simp, rfl, rfl⟩ rfl rfl rfl)
                          have e94 : a.tmps[94]?.getD undef = .slice ea (NK s ii).length ec := slot_at (hdep ⟨7, .data⟩ (by simp) rfl _ 94 rfl rfl)
                          obtain ⟨hk9, g, rfl, hg⟩ := hw
                          refine ls_none rfl ?_
                          refine op_append1_at (.tmp 94) (.tmp 100) 22 3 rfl Tryz.underlying22 HII.out rfl (HRow.out.kp hk9 (fun _ _ h => h)) (eval_at e94) ⟨g, 0, none⟩ (.int .i64 ((X s ii : Nat) : Int)) (eval_at e100) hg rfl (by rw [iv_natV_len]; omega) (by rw [iv_natV_len]; unfold maxLen; omega) (by have := hk9.size; have := HLo9.out; omega) ?_
                          intro v' u' hO' hgr hat
                          exact ⟨v', rfl, trivial, ⟨u, hk9, hO', hgr, hat⟩, trivial⟩
                        | n + 15, _ => exact (inL_far (N := 15) (by decide) hp).elim
                      case hendW14 =>
                        intro vs a u hlen hI
                        have hsz : a.tmps.size = 104 := hI.size
                        have hdf : a.defers = [] := hI.defers
                        have f0 := hI.o 0 (by kernel_rfl)
                        have f1 := hI.o 1 (by kernel_rfl)
                        have f2 := hI.o 2 (by kernel_rfl)
                        have f3 := hI.o 3 (by kernel_rfl)
                        have f4 := hI.o 4 (by kernel_rfl)
                        have f5 := hI.o 5 (by kernel_rfl)
                        have f6 := hI.o 6 (by kernel_rfl)
                        have f7 := hI.o 7 (by kernel_rfl)
                        have f8 := hI.o 8 (by kernel_rfl)
                        have f9 := hI.o 9 (by kernel_rfl)
                        have f10 := hI.o 10 (by kernel_rfl)
                        have f11 := hI.o 11 (by kernel_rfl)
                        have f12 := hI.o 12 (by kernel_rfl)
                        have f13 := hI.o 13 (by kernel_rfl)
                        have f14 := hI.o 14 (by kernel_rfl)
                        have f15 := hI.o 15 (by kernel_rfl)
                        have f16 := hI.o 16 (by kernel_rfl)
                        have f17 := hI.o 17 (by kernel_rfl)
                        have f18 := hI.o 18 (by kernel_rfl)
                        have f19 := hI.o 19 (by kernel_rfl)
                        have f20 := hI.o 20 (by kernel_rfl)
                        have f21 := hI.o 21 (by kernel_rfl)
                        have f22 := hI.o 22 (by kernel_rfl)
                        have f23 := hI.o 23 (by kernel_rfl)
                        have f24 := hI.o 24 (by kernel_rfl)
                        have f25 := hI.o 25 (by kernel_rfl)
                        have f26 := hI.o 26 (by kernel_rfl)
                        have f27 := hI.o 27 (by kernel_rfl)
                        have f28 := hI.o 28 (by kernel_rfl)
                        have f29 := hI.o 29 (by kernel_rfl)
                        have f30 := hI.o 30 (by kernel_rfl)
                        have f31 := hI.o 31 (by kernel_rfl)
                        have f32 := hI.o 32 (by kernel_rfl)
                        have f33 := hI.o 33 (by kernel_rfl)
                        have f34 := hI.o 34 (by kernel_rfl)
                        have f35 := hI.o 35 (by kernel_rfl)
                        have f36 := hI.o 36 (by kernel_rfl)
                        have f37 := hI.o 37 (by kernel_rfl)
                        have f38 := hI.o 38 (by kernel_rfl)
                        have f39 := hI.o 39 (by kernel_rfl)
                        have f40 := hI.o 40 (by kernel_rfl)
                        have f41 := hI.o 41 (by kernel_rfl)
                        have f42 := hI.o 42 (by kernel_rfl)
                        have f43 := hI.o 43 (by kernel_rfl)
                        have f44 := hI.o 44 (by kernel_rfl)
                        have f45 := hI.o 45 (by kernel_rfl)
                        have f46 := hI.o 46 (by kernel_rfl)
                        have f47 := hI.o 47 (by kernel_rfl)
                        have f48 := hI.o 48 (by kernel_rfl)
                        have f49 := hI.o 49 (by kernel_rfl)
                        have f50 := hI.o 50 (by kernel_rfl)
                        have f51 := hI.o 51 (by kernel_rfl)
                        have f52 := hI.o 52 (by kernel_rfl)
                        have f53 := hI.o 53 (by kernel_rfl)
                        have f54 := hI.o 54 (by kernel_rfl)
                        have f55 := hI.o 55 (by kernel_rfl)
                        have f56 := hI.o 56 (by kernel_rfl)
                        have f57 := hI.o 57 (by kernel_rfl)
                        have f58 := hI.o 58 (by kernel_rfl)
                        have f59 := hI.o 59 (by kernel_rfl)
                        have f60 := hI.o 60 (by kernel_rfl)
                        have f61 := hI.o 61 (by kernel_rfl)
                        have f62 := hI.o 62 (by kernel_rfl)
                        have f63 := hI.o 63 (by kernel_rfl)
                        have f64 := hI.o 64 (by kernel_rfl)
                        have f65 := hI.o 65 (by kernel_rfl)
                        have f66 := hI.o 66 (by kernel_rfl)
                        have f67 := hI.o 67 (by kernel_rfl)
                        have f68 := hI.o 68 (by kernel_rfl)
                        have f69 := hI.o 69 (by kernel_rfl)
                        have f70 := hI.o 70 (by kernel_rfl)
                        have f71 := hI.o 71 (by kernel_rfl)
                        have f72 := hI.o 72 (by kernel_rfl)
                        have f73 := hI.o 73 (by kernel_rfl)
                        have f74 := hI.o 74 (by kernel_rfl)
                        have f75 := hI.o 75 (by kernel_rfl)
                        have f76 := hI.o 76 (by kernel_rfl)
                        have f77 := hI.o 77 (by kernel_rfl)
                        have f78 := hI.o 78 (by kernel_rfl)
                        have f79 := hI.o 79 (by kernel_rfl)
                        have f80 := hI.o 80 (by kernel_rfl)
                        have f81 := hI.o 81 (by kernel_rfl)
                        have f82 := hI.o 82 (by kernel_rfl)
                        have f83 := hI.o 83 (by kernel_rfl)
                        have f84 := hI.o 84 (by kernel_rfl)
                        have f85 := hI.o 85 (by kernel_rfl)
                        have f86 := hI.o 86 (by kernel_rfl)
                        have f102 := hI.o 102 (by kernel_rfl)
                        have f103 := hI.o 103 (by kernel_rfl)
                        obtain ⟨r0, r1, r2, r3, rfl⟩ := vs_list4 hlen
                        have f87 : a.tmps.getD 87 undef = .pointer (some ⟨q, 2, none⟩) := hI.val 0 _ 87 rfl rfl rfl
                        have f88 : a.tmps.getD 88 undef = .slice (some ⟨gD, 0, none⟩) n n := hI.val 1 _ 88 rfl rfl rfl
                        have f89 : a.tmps.getD 89 undef = (.int .i64 (s : Int)) := hI.val 2 _ 89 rfl rfl rfl
                        have f90 : a.tmps.getD 90 undef = .pointer (some ⟨q, 2, none⟩) := hI.val 3 _ 90 rfl rfl rfl
                        have f91 : a.tmps.getD 91 undef = .slice (some ⟨gD, 0, none⟩) n n := hI.val 4 _ 91 rfl rfl rfl
                        have f92 : a.tmps.getD 92 undef = (.int .i64 (s : Int)) := hI.val 5 _ 92 rfl rfl rfl
                        have f93 : a.tmps.getD 93 undef = .pointer (some ⟨gD, s, none⟩) := hI.val 6 _ 93 rfl rfl rfl
                        have f94 : a.tmps.getD 94 undef = .slice ea (NK s ii).length ec := hI.val 7 _ 94 rfl rfl rfl
                        have f95 : a.tmps.getD 95 undef = (.pointer (some ⟨p, 0, none⟩)) := hI.val 8 _ 95 rfl rfl rfl
                        have f96 : a.tmps.getD 96 undef = (.slice sa nl sc) := hI.val 9 _ 96 rfl rfl rfl
                        have f97 : a.tmps.getD 97 undef = (.slice ia ni ic) := hI.val 10 _ 97 rfl rfl rfl
                        have f98 : a.tmps.getD 98 undef = r0 := hI.told 11 _ 98 rfl rfl rfl rfl
                        have f99 : a.tmps.getD 99 undef = r1 := hI.told 12 _ 99 rfl rfl rfl rfl
                        have f100 : a.tmps.getD 100 undef = r2 := hI.told 13 _ 100 rfl rfl rfl rfl
                        have f101 : a.tmps.getD 101 undef = r3 := hI.told 14 _ 101 rfl rfl rfl rfl
                        have ha := act_list104 a hsz
                        rw [hdf, f0, f1, f2, f3, f4, f5, f6, f7, f8, f9, f10, f11, f12, f13, f14, f15, f16, f17, f18, f19, f20, f21, f22, f23, f24, f25, f26, f27, f28, f29, f30, f31, f32, f33, f34, f35, f36, f37, f38, f39, f40, f41, f42, f43, f44, f45, f46, f47, f48, f49, f50, f51, f52, f53, f54, f55, f56, f57, f58, f59, f60, f61, f62, f63, f64, f65, f66, f67, f68, f69, f70, f71, f72, f73, f74, f75, f76, f77, f78, f79, f80, f81, f82, f83, f84, f85, f86, f87, f88, f89, f90, f91, f92, f93, f94, f95, f96, f97, f98, f99, f100, f101, f102, f103] at ha
                        clear hlen
                        have hru := hI.rel
                        have hwu := hI.st
                        clear hI hsz hdf f0 f1 f2 f3 f4 f5 f6 f7 f8 f9 f10 f11 f12 f13 f14 f15 f16 f17 f18 f19 f20 f21 f22 f23 f24 f25 f26 f27 f28 f29 f30 f31 f32 f33 f34 f35 f36 f37 f38 f39 f40 f41 f42 f43 f44 f45 f46 f47 f48 f49 f50 f51 f52 f53 f54 f55 f56 f57 f58 f59 f60 f61 f62 f63 f64 f65 f66 f67 f68 f69 f70 f71 f72 f73 f74 f75 f76 f77 f78 f79 f80 f81 f82 f83 f84 f85 f86 f87 f88 f89 f90 f91 f92 f93 f94 f95 f96 f97 f98 f99 f100 f101 f102 f103 
                        subst ha
                        refine wpAny_tailO [15, 16] rfl rfl (by kernel_rfl) ?_
                        simp only [opsAt, List.filterMap_cons, List.filterMap_nil, List.getElem?_toArray, List.getElem?_cons_zero, List.getElem?_cons_succ]
                        simp only [Array.getD_eq_getD_getElem?, List.getElem?_toArray, List.getElem?_cons_zero, List.getElem?_cons_succ, Option.getD_some]
                        have hka := hwu.all
                        obtain ⟨w10, hk10, hO10, hg10, hat10⟩ := hwu
                        obtain ⟨aN, cN, eN, -⟩ := hO10.form
                        rw [List.length_append, List.length_singleton, iv_natV_len] at eN
                        subst eN
                        have hBd := HW9.out.rows.blk.kp hka (fun e => HDo.out e)
                        have y1 := hBd.cell (i := s) (v := R s) (by have := rowF_at (f := R) hlt; simpa using this)
                        have z1 := hBd.free s
                        rw [HRv.out] at y1
                        obtain ⟨hWp, hkp⟩ := HW9.out.push (x := ((X s ii : Nat) : Int)) hlt hk10 (by rw [show up1 (fun t => if t < s then natV (sN t) else []) s (natV (NK s ii)) s = natV (NK s ii) from up1_at _ _ _]; exact hO10) (by rw [HRv.out]; exact hg10) (by rw [HRv.out]; exact hat10)
                        have HWp := Lib.hid hWp
                        have HOp := Lib.hid (HO9.out.kp hkp (fun j hj e => by
                          rcases e with e | e
                          · exact own_ne_blk HO9.out HW9.out.rows.blk (by decide) j hj e
                          · rw [HRv.out] at e
                            exact own_ne_own2 HO9.out HRow.out (by decide) j hj e))
                        have HKp := Lib.hid (HK9.out.trans hkp (fun j h1 e => by
                          have := HLo.out
                          rcases e with e | e
                          · have := HW9.out.rows.lo; omega
                          · have := ((HW9.out.rows.ow s hlt).lt j e).1; omega))
                        clear hka hk10 hO10 hg10 hat10 hBd hWp hkp hru
                        go_wp2_with fail
                        go_roundw
                        case rel =>
                          refine ⟨ii + 1, _, by go_num, by omega, HWp.out.congr (fun _ _ => rfl) (fun _ _ => rfl) (fun t _ => ?_), HOp.out, HKp.out⟩
                          rw [HNp.out s ii HHe.out]
                          unfold up1
                          by_cases e : t = s
                          · rw [if_pos e, if_pos e, if_pos rfl]; simp [natV]
                          · rw [if_neg e, if_neg e, if_neg e]
                        case measure => simp [intOf]; omega
              · obtain rfl : ii = mx := by omega
                clear hW hO hK
                go_wp2_with fail
                go_roundw
                case rel =>
                  refine ⟨s + 1, R, by go_num, by omega, HW.out.congr (fun t _ => rfl) (fun t _ => ?_) (fun t _ => ?_), HK.out⟩
                  · unfold upB
                    by_cases e : t = s
                    · rw [if_pos e, HDa.out, e, decide_eq_true (Nat.lt_succ_self s)]; rfl
                    · rw [if_neg e]; exact lt_and e _
                  · unfold up1
                    by_cases e : t = s
                    · rw [if_pos e, HNa.out, e, if_pos (Nat.lt_succ_self s)]
                    · rw [if_neg e]
                      show (if t < s then natV (sN t) else []) = (if t < s + 1 then natV (sN t) else [])
                      by_cases e2 : t < s
                      · rw [if_pos e2, if_pos (by omega)]
                      · rw [if_neg e2, if_neg (by omega)]
                case measure => simp [intOf]; omega
        · obtain rfl : s = n := by omega
          have hq0 := hW.all.cell (i := 0) (v := .slice (some ⟨gA, 0, none⟩) s s) rfl
          have hq1 := hW.all.cell (i := 1) (v := .slice (some ⟨gB, 0, none⟩) s s) rfl
          have hq2 := hW.all.cell (i := 2) (v := .slice (some ⟨gD, 0, none⟩) s s) rfl
          have y0 := hW.res.cell (i := 0) (v := .slice none 0 0) rfl
          have y1 := hW.res.cell (i := 1) (v := .slice none 0 0) rfl
          have y2 := hW.res.cell (i := 2) (v := .slice none 0 0) rfl
          have z0 := hW.res.free 0
          have z1 := hW.res.free 1
          have z2 := hW.res.free 2
          clear hW hK
          go_wp2_with fail
          obtain ⟨w9, hw9⟩ : ∃ w9 : World, ((w4.setCell ⟨r4, 0, none⟩ (.slice (some ⟨gA, 0, none⟩) s s)).setCell ⟨r4, 1, none⟩ (.slice (some ⟨gB, 0, none⟩) s s)).setCell ⟨r4, 2, none⟩ (.slice (some ⟨gD, 0, none⟩) s s) = w9 := ⟨_, rfl⟩
          have q0 := ((HW.out.res.set_same 0 (.slice (some ⟨gA, 0, none⟩) s s)).set_same 1 (.slice (some ⟨gB, 0, none⟩) s s)).set_same 2 (.slice (some ⟨gD, 0, none⟩) s s)
          rw [hw9] at q0 ⊢
          have x0 := q0.cell (i := 0) (v := .slice (some ⟨gA, 0, none⟩) s s) rfl
          have x1 := q0.cell (i := 1) (v := .slice (some ⟨gB, 0, none⟩) s s) rfl
          have x2 := q0.cell (i := 2) (v := .slice (some ⟨gD, 0, none⟩) s s) rfl
          have k9 : Kp (fun j => j = r4) w4 w9 := by
            rw [← hw9]
            exact (((Kp.refl (fun j => j = r4) w4).setCell (p := ⟨r4, 0, none⟩) (fun _ => rfl) _).setCell (p := ⟨r4, 1, none⟩) (fun _ => rfl) _).setCell (p := ⟨r4, 2, none⟩) (fun _ => rfl) _
          have hA9 := HW.out.ba.kp k9 (fun e => blk_ne HW.out.ba HW.out.res (by decide) e)
          have hB9 := HW.out.bb.kp k9 (fun e => blk_ne HW.out.bb HW.out.res (by decide) e)
          have hR9 := HW.out.rows.kpO k9 (fun e => blk_ne HW.out.rows.blk HW.out.res (by decide) e) (fun t ht j hj e => own_ne_blk (HW.out.rows.ow t ht) HW.out.res (by decide) j hj e)
          exact bodyPost_ret (v := .agg (allV gA gB gD s s s s)) (by simp [results, Tryz.results11, go_sem, x0, x1, x2, allV]) rfl ⟨gA, gB, gD, rfl, ⟨fun t ht => by
            have := hA9.at ht
            rw [decide_eq_true ht, Bool.true_and] at this
            exact this, fun t ht => by
            have := hB9.at ht
            rw [decide_eq_true ht, Bool.true_and] at this
            exact this, fun t ht => by
            have h1 := hR9.cell ht
            obtain ⟨e, c, h2, -, -, -, h3⟩ := (hR9.ow t ht).form
            rw [if_pos ht, iv_length, natV_len] at h2
            rw [if_pos ht] at h3
            rw [h2] at h1
            exact ⟨e, c, h1, h3⟩⟩, HK.out.trans k9 (fun j h1 e => by have := HR4.out; omega)⟩

end Go.Proofs.YtnoknecfdnjomaaGreat
