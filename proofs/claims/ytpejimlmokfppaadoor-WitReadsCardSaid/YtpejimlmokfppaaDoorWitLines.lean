/-
  wit.lines: the lines of a text, one behind the other, up to the first that is none: the contract of a function that is ranged over.
-/
import Derived.Test.YtpejimlmokfppaaDoorWitPlain
import Derived.Test.YtpejimlmokfppaaDoorDerivLives
import Derived.RangeFuncNested
import Derived.RangeFuncBound
import Derived.RangeFuncCalls
import Derived.RangeFuncLeaves
import Derived.Shelf.Abstract
import Derived.Shelf.RegionOpen
import Derived.OwnWalkIn
import Derived.TacticsInMore
import Derived.LoopNIn
import Derived.LoopIn
namespace Go.Proofs.YtpejimlmokfppaaDoor
open Go.RowKit Go.Shelf

attribute [local go_sem] Oper.semAt_some

/-- a line, where it stands, where the next one stands, what is wrong -/
structure LX (B : Nat) where
  text : ByteArray
  at_ : Nat
  next : Nat
  e : Nat
  ht : text.size ≤ B
  ha : at_ ≤ B
  hn : next ≤ B
  he : e ≤ 3

def LX.enc {B : Nat} (x : LX B) : Array Value := #[.agg #[.string x.text, .int .i64 x.at_, .int .i64 x.next, .int .i64 x.e]]

theorem lineT_next {s : ByteArray} {p : Nat} (hp : p ≤ s.size) : (lineT s (p : Nat)).2.1 ≤ s.size := by
  rw [lineT_in hp]
  rcases feed_cases s p with ⟨i, h0, h1, h2, _⟩ | ⟨h, _⟩
  · rw [h0]; simp only; omega
  · rw [h]; simp

theorem lineT_err {s : ByteArray} {p : Nat} (hp : p ≤ s.size) : (lineT s (p : Nat)).2.2 = 0 ∨ (lineT s (p : Nat)).2.2 = 3 := by
  rw [lineT_in hp]
  rcases feed_cases s p with ⟨i, h0, h1, h2, _⟩ | ⟨h, _⟩
  · rw [h0]; exact .inl rfl
  · rw [h]; exact .inr rfl

/-- the line at a place -/
def lx (s : ByteArray) (p : Nat) (hp : p ≤ s.size) : LX s.size :=
  ⟨(lineT s (p : Nat)).1, p, (lineT s (p : Nat)).2.1, (lineT s (p : Nat)).2.2, lineT_size hp, hp, lineT_next hp, by rcases lineT_err hp with h | h <;> omega⟩

/-- the lines from a place on, up to the first that is none -/
def linesF (s : ByteArray) : Nat → (p : Nat) → p ≤ s.size → List (LX s.size)
  | 0, _, _ => []
  | f + 1, p, hp => lx s p hp :: if (lineT s (p : Nat)).2.2 = 0 then linesF s f (lineT s (p : Nat)).2.1 (lineT_next hp) else []

/-- what a round keeps: the cell in which the text lies -/
def KeepB (B : Nat) (W W' : World) : Prop := W.heap.size ≤ W'.heap.size ∧ (B < W.heap.size → W'.heap[B]? = W.heap[B]?)

theorem KeepB.trans {B : Nat} {a b c : World} (h : KeepB B a b) (k : KeepB B b c) : KeepB B a c :=
  ⟨Nat.le_trans h.1 k.1, fun hl => (k.2 (Nat.lt_of_lt_of_le hl h.1)).trans (h.2 hl)⟩

theorem KeepB.refl (B : Nat) (w : World) : KeepB B w w := ⟨Nat.le_refl _, fun _ => rfl⟩

theorem KeepB.cell {B : Nat} {W W' : World} (h : KeepB B W W') {v : Value} (hc : W.cell? ⟨B, 0, none⟩ = some v) : W'.cell? ⟨B, 0, none⟩ = some v :=
  (World.cell?_of_block (w := W) (w' := W') (a := ⟨B, 0, none⟩) (h.2 (World.block_lt_of_cell? W _ hc))).trans hc

set_option maxRecDepth 100000 in
set_option maxHeartbeats 2000000 in
theorem wit_lines (s : ByteArray) (w : World) :
    Calls Tryd.prog 12 #[.string s] w fun e w' => e = .returned (.func (.func 25) #[] #[.pointer (some ⟨w.heap.size, 0, none⟩)]) ∧ w' = w.alloc (.cells #[.string s] 9) := by
  go_enter Tryd.func12, Tryd.ntmps12
  go_wp2_with fail
  go_ret
  exact ⟨rfl, rfl⟩

set_option maxRecDepth 100000 in
set_option maxHeartbeats 4000000 in
theorem lines1_in (n : Nat) (hn : 1 ≤ n) (l Bs : Nat) (s : ByteArray) (hs : s.size ≤ 100000) (J Jx : List (LX s.size) → World → Prop)
    (hY : ∀ pre x W, J pre W → pre.length < s.size + 2 → YieldAt Fence.wide (n - 1) Tryd.prog l (LX.enc x) W fun e W' =>
      (e = .returned (.bool true) ∧ J (pre ++ [x]) W' ∧ KeepB Bs W W') ∨ (e = .returned (.bool false) ∧ Jx (pre ++ [x]) W'))
    (W : World) (hBs : W.cell? ⟨Bs, 0, none⟩ = some (.string s)) (h0 : J [] W) :
    CallsIn Fence.wide n Tryd.prog 25 #[.func (.yield l) #[] #[], .pointer (some ⟨Bs, 0, none⟩)] W fun e W' => (∃ v, e = .returned v) ∧
      ((∃ ys, ys = linesF s (s.size + 2) 0 (Nat.zero_le _) ∧ J ys W') ∨ (∃ pre, pre <+: linesF s (s.size + 2) 0 (Nat.zero_le _) ∧ Jx pre W')) := by
  have HLine := Lib.hid (fun (p : Nat) (u : World) => octet_Line s p u (by omega))
  refine callsIn_of_wp Tryd.func25 rfl trivial ?_ rfl
  simp only [Tryd.ntmps25, List.size_toArray, List.length_cons, List.length_nil, Nat.reduceAdd, Nat.reduceSub, Array.replicate_succ, Array.replicate_zero, List.push_toArray, List.append_toArray, List.nil_append, List.cons_append]
  gi_wp2
  gi_loopw [3] (fun v3 wr => ∃ (p f : Nat) (hp : p ≤ s.size) (pre : List (LX s.size)), v3 = .int .i64 p ∧ pre.length + f = s.size + 2 ∧ pre.length ≤ p ∧ pre ++ linesF s f p hp = linesF s (s.size + 2) 0 (Nat.zero_le _) ∧ J pre wr ∧ wr.cell? ⟨Bs, 0, none⟩ = some (.string s))
    (fun v3 _ => s.size - (intOf v3).toNat)
  case atStart => exact ⟨0, s.size + 2, Nat.zero_le _, [], rfl, by simp, by simp, rfl, h0, hBs⟩
  case round =>
    obtain ⟨p, f, hp, pre, rfl, hf, hpre, hall, hJ, hc⟩ := hrel
    obtain ⟨f, rfl⟩ : ∃ f', f = f' + 1 := ⟨f - 1, by omega⟩
    have hR0 := hY pre (lx s p hp) wr hJ (by omega)
    have HL := HLine.out p wr
    have HF := Lib.hid (show linesF s (f + 1) p hp = lx s p hp :: if (lineT s (p : Nat)).2.2 = 0 then linesF s f (lineT s (p : Nat)).2.1 (lineT_next hp) else [] from rfl)
    have HEnc := Lib.hid (show (lx s p hp).enc = #[.agg #[.string (lineT s (p : Nat)).1, .int .i64 p, .int .i64 (lineT s (p : Nat)).2.1, .int .i64 (lineT s (p : Nat)).2.2]] from rfl)
    have HNx := Lib.hid (lineT_next hp)
    have HEnd := Lib.hid (fun h => lineT_end hp h)
    have HEr := Lib.hid (lineT_err hp)
    have HLV := Lib.hid (show lineV (lineT s (p : Nat)) = .tuple #[.string (lineT s (p : Nat)).1, .int .i64 (lineT s (p : Nat)).2.1, .int .i64 (lineT s (p : Nat)).2.2] from rfl)
    rw [HLV.out] at HL
    clear HLV
    have HAll := Lib.hid hall
    have HFu := Lib.hid hf
    clear hall hf
    obtain ⟨X, hX⟩ : ∃ X, lx s p hp = X := ⟨_, rfl⟩
    rw [hX] at hR0 HF HEnc
    obtain ⟨fn, tmps, assign, body, hy, hR⟩ := hR0
    rw [HEnc.out] at hy
    clear hX
    have hHL : Hid (∀ (_ : Unit), CallsIn Fence.wide (n - 1) Tryd.prog 26 #[.string s, .int .i64 p] wr fun e w' => e = .returned (.tuple #[.string (lineT s (p : Nat)).1, .int .i64 (lineT s (p : Nat)).2.1, .int .i64 (lineT s (p : Nat)).2.2]) ∧ wr = w') := Lib.hid (fun _ => callsIn_wide.2 HL)
    clear HL
    obtain ⟨t, nx, er, hT⟩ : ∃ t nx er, lineT s (p : Nat) = (t, nx, er) := ⟨_, _, _, rfl⟩
    simp only [hT] at hy hHL HF HNx HEnd HEr HEnc
    gi_wp2_with (refine ⟨trivial, ?_⟩; gi_at_call 26; refine (hHL.out ()).mono ?_; rintro e w' ⟨rfl, rfl⟩)
    refine hR.mono ?_
    rintro e W3 (⟨rfl, hJ3, hk3⟩ | ⟨rfl, hJx3⟩)
    · have hc3 := hk3.cell hc
      rcases HEr.out with he | he
      · subst he
        have HE := HEnd.out rfl
        gi_wp2
        go_roundw
        case rel => exact ⟨nx, f, HNx.out, pre ++ [X], rfl, by simp; have := HFu.out; omega, by simp; omega, by have h := HAll.out; rw [HF.out] at h; simpa using h, hJ3, hc3⟩
        case measure => simp [intOf]; omega
      · subst he
        gi_wp2
        refine bodyPost_ret (results_none rfl _ _ _) rfl ?_
        exact ⟨⟨_, rfl⟩, .inl ⟨pre ++ [X], by have h := HAll.out; rw [HF.out] at h; simpa using h, hJ3⟩⟩
    · rcases HEr.out with he | he
      all_goals
        subst he
        gi_wp2
        refine bodyPost_ret (results_none rfl _ _ _) rfl ?_
        exact ⟨⟨_, rfl⟩, .inr ⟨pre ++ [X], by have h := HAll.out; rw [HF.out] at h; exact ⟨_, by rw [← h, List.append_assoc]; rfl⟩, hJx3⟩⟩

/-- the lines that are handed over: all; or those up to some round that said: no more -/
theorem lines_stops (n : Nat) (hn : 1 ≤ n) (Bs : Nat) (s : ByteArray) (hs : s.size ≤ 100000) (w : World) (hBs : w.cell? ⟨Bs, 0, none⟩ = some (.string s)) :
    SeqStopsK Fence.wide n Tryd.prog 25 #[.pointer (some ⟨Bs, 0, none⟩)] (LX.enc (B := s.size)) (KeepB Bs) (fun ys => ys = linesF s (s.size + 2) 0 (Nat.zero_le _)) (fun pre => pre <+: linesF s (s.size + 2) 0 (Nat.zero_le _)) (s.size + 2) w :=
  fun l J Jx W hW _ _ hY h0 => lines1_in n hn l Bs s hs J Jx hY W ((hW.cell (p := ⟨Bs, 0, none⟩) (World.block_lt_of_cell? w _ hBs)).trans hBs) h0

end Go.Proofs.YtpejimlmokfppaaDoor
