/-
  A region that draws its order, whose calls may make and turn memory of their own, and leave all old blocks alone:
  one walk, in the order of the text, in every world that keeps the old blocks.
-/
import Derived.Test.YtpihfgpgdjjfhaaDoorM1
import Derived.Deep.Quiet
import Derived.Deep.QuietTactic
import Derived.Orders
import Derived.Test.YtpihfgpgdjjfhaaDoorM3
import Derived.Test.YtpihfgpgdjjfhaaDoorM2
import Derived.Test.YtpihfgpgdjjfhaaDoorRows
import Derived.ProofKit
import Derived.OpenShut
import Derived.Lib.LaidTab
import Derived.Stop.LaidErr
import Derived.Shelf.Vars
import GoSem.PinnedTables
namespace Go.Proofs.YtpihfgpgdjjfhaaDoor
open Go

/-- the worlds that keep all blocks of w, as the values of a function -/
theorem still_class (w : World) : ∃ F : World → World, (∀ x, Kp (fun _ => False) w (F x)) ∧ (∀ w', Kp (fun _ => False) w w' → ∃ y, w' = F y) := by
  classical
  refine ⟨fun u => if Kp (fun _ => False) w u then u else w, fun x => ?_, fun w' h => ⟨w', by simp [h]⟩⟩
  by_cases h : Kp (fun _ => False) w x
  · simp [h]
  · simp [h, Kp.refl]

theorem Calls.still_of {P : Program} {f : FuncId} {args : Array Value} {w : World} {F : World → World} (h1 : ∀ x, Kp (fun _ => False) w (F x)) (h2 : ∀ w', Kp (fun _ => False) w w' → ∃ y, w' = F y) {x : World} {v : Value}
    (h : Calls P f args (F x) fun e w' => e = .returned v ∧ Kp (fun _ => False) (F x) w') : Calls P f args (F x) fun e w'' => e = .returned v ∧ ∃ y, w'' = F y :=
  h.mono fun _ _ ⟨he, hk⟩ => ⟨he, h2 _ ((h1 x).trans hk (fun _ _ h => h))⟩

theorem wp_region_kept {P : Program} {id : Nat} {Q : Exit → Act → World → Prop} {a : Act} {w : World} {l : List Oper} {F : World → World} (hm : P.follows .mixedOrders = true) (hB : Region.lexB .any l.toArray = true)
    (h2 : ∀ w', Kp (fun _ => False) w w' → ∃ y, w' = F y)
    (h : wpQuiet P l.toArray (fun w' => ∃ x, w' = F x) (fun a' => ∀ w', (∃ x, w' = F x) → Q .normal a' w') l a) : (Code.region id l.toArray true).wp P Q a w :=
  wp_region_quiet (C := fun w' => ∃ x, w' = F x) hm hB (h2 _ (Kp.refl _ w).drew) (by simpa using h)


end Go.Proofs.YtpihfgpgdjjfhaaDoor

/-
  latchetlaw39.Of, latchetlaw39.bits: options of bits, and bits of options; opts.Same.
-/
namespace Go.Proofs.YtpihfgpgdjjfhaaDoor
open Go.RowKit

theorem law05_Of (b : Nat) (w : World) :
    Calls Tryd.prog 33 #[.int .u64 (b : Int)] w fun e w' => e = .returned (.float .f64 b) ∧ w' = w := by
  have hf := fun u => frombits b u
  go_enter Tryd.func33, Tryd.ntmps33
  go_wp2_with fail
  go_ret
  exact ⟨rfl, rfl⟩

set_option maxRecDepth 100000 in
set_option maxHeartbeats 4000000 in
theorem law39_Of (o : Opt) (w : World) :
    Calls Tryd.prog 11 #[.agg (optC o)] w (PlainP (.agg (optV o)) w) := by
  obtain ⟨e, b, p, f, u, k, s, d, m⟩ := o
  unfold optV optC
  obtain ⟨wA, hwA⟩ : ∃ wA, wA = (w.alloc (.cells #[.int .i64 e, .int .i64 b, .int .i64 p, .int .i64 f, .int .i64 u, .int .i64 k, .int .u64 (s : Nat), .int .u64 (d : Nat), .int .u64 (m : Nat)] 31)).alloc (.cells #[.int .i64 0, .int .i64 0, .int .i64 0, .int .u64 0, .int .i64 0, .int .i64 0, .int .i64 0, .float .f64 0, .float .f64 0] 25) := ⟨_, rfl⟩
  have HA := Lib.hid hwA
  have HB0 : Hid (Blk wA w.heap.size #[.int .i64 e, .int .i64 b, .int .i64 p, .int .i64 f, .int .i64 u, .int .i64 k, .int .u64 (s : Nat), .int .u64 (d : Nat), .int .u64 (m : Nat)] 31) := Lib.hid (by rw [hwA]; exact (Blk.new w _ _).alloc _)
  have HR0 : Hid (Blk wA (w.heap.size + 1) #[.int .i64 0, .int .i64 0, .int .i64 0, .int .u64 0, .int .i64 0, .int .i64 0, .int .i64 0, .float .f64 0, .float .f64 0] 25) := Lib.hid (by rw [hwA]; exact (World.size_alloc w _) ▸ Blk.new (w.alloc _) _ _)
  have HK0 : Hid (Kp (fun _ => False) w wA) := Lib.hid (by rw [hwA]; exact ((Kp.refl _ w).alloc _).alloc _)
  clear hwA
  go_enter Tryd.func11, Tryd.ntmps11
  go_upto_region 1 with fail
  rw [← HA.out]
  clear HA
  obtain ⟨rb, hrb⟩ : ∃ rb, rb = w.heap.size + 1 := ⟨_, rfl⟩
  rw [← hrb] at HR0 ⊢
  have n1 : rb ≠ w.heap.size := by omega
  have n2 : w.heap.size ≠ rb := by omega
  have HRb := Lib.hid hrb
  clear hrb
  obtain ⟨U, hU0, hU1⟩ : ∃ U : Nat → World, U 0 = wA ∧ ∀ k', U (k' + 1) = set9 wA rb (.int .i64 e) (.int .i64 b) (.int .i64 p) (.int .u64 (s : Nat)) (.int .i64 f) (.int .i64 u) (.int .i64 k) (.float .f64 d) (.float .f64 m) :=
    ⟨fun i => match i with | 0 => _ | _ + 1 => _, rfl, fun _ => rfl⟩
  have hBU : ∀ i, Blk (U i) w.heap.size #[.int .i64 e, .int .i64 b, .int .i64 p, .int .i64 f, .int .i64 u, .int .i64 k, .int .u64 (s : Nat), .int .u64 (d : Nat), .int .u64 (m : Nat)] 31 := by
    intro i
    match i with
    | 0 => rw [hU0]; exact HB0.out
    | i + 1 => rw [hU1]; exact HB0.out.kp (Kp.set9 _ _ _ _ _ _ _ _ _ _ _) n2
  have HBU := Lib.hid hBU
  have y0 : ∀ i, (U i).cell? ⟨w.heap.size, 0, none⟩ = some (.int .i64 e) := fun i => (hBU i).cell rfl
  have y1 : ∀ i, (U i).cell? ⟨w.heap.size, 1, none⟩ = some (.int .i64 b) := fun i => (hBU i).cell rfl
  have y2 : ∀ i, (U i).cell? ⟨w.heap.size, 2, none⟩ = some (.int .i64 p) := fun i => (hBU i).cell rfl
  have y3 : ∀ i, (U i).cell? ⟨w.heap.size, 3, none⟩ = some (.int .i64 f) := fun i => (hBU i).cell rfl
  have y4 : ∀ i, (U i).cell? ⟨w.heap.size, 4, none⟩ = some (.int .i64 u) := fun i => (hBU i).cell rfl
  have y5 : ∀ i, (U i).cell? ⟨w.heap.size, 5, none⟩ = some (.int .i64 k) := fun i => (hBU i).cell rfl
  have y6 : ∀ i, (U i).cell? ⟨w.heap.size, 6, none⟩ = some (.int .u64 (s : Nat)) := fun i => (hBU i).cell rfl
  have y7 : ∀ i, (U i).cell? ⟨w.heap.size, 7, none⟩ = some (.int .u64 (d : Nat)) := fun i => (hBU i).cell rfl
  have y8 : ∀ i, (U i).cell? ⟨w.heap.size, 8, none⟩ = some (.int .u64 (m : Nat)) := fun i => (hBU i).cell rfl
  clear hBU
  have HU1 := Lib.hid (hU1 0)
  clear hU1
  refine wp_region_moves (by kernel_rfl) U hU0 27 1 (by rfl) (by kernel_rfl) (by kernel_rfl) ?_
  iterate 23 (refine walkM_step (fun J hJ => ?_); go_simp; first | (refine hJ _ ?_; clear hJ J) | (apply Exists.intro; refine ⟨fun _ _ => ?_, hJ _ ?_⟩; (exact Calls.quiet_of_same (law05_Of d _)); clear hJ J))
  iterate 3 (refine walkM_step (fun J hJ => ?_); go_simp; first | (refine hJ _ ?_; clear hJ J) | (apply Exists.intro; refine ⟨fun _ _ => ?_, hJ _ ?_⟩; (exact Calls.quiet_of_same (law05_Of m _)); clear hJ J))
  (refine walkM_step (fun J hJ => ?_); go_simp; first | (refine hJ _ ?_; clear hJ J) | (apply Exists.intro; refine ⟨fun _ _ => ?_, hJ _ ?_⟩; (fail); clear hJ J))
  refine walkM_zero ?_
  clear y0 y1 y2 y3 y4 y5 y6 y7 y8
  refine wpM_one (i := 27) (by kernel_rfl) rfl (by rfl) undef (U 1) ?_ ⟨1, rfl⟩ ?_
  · intro n
    rw [HU1.out]
    clear HU1 hU0 HBU
    obtain ⟨uA, huA⟩ : ∃ uA, uA = wA.drewN n := ⟨_, rfl⟩
    have hBA : Blk uA rb #[.int .i64 0, .int .i64 0, .int .i64 0, .int .u64 0, .int .i64 0, .int .i64 0, .int .i64 0, .float .f64 0, .float .f64 0] 25 := by rw [huA]; exact HR0.out.drewN n
    obtain ⟨z0, z1, z2, z3, z4, z5, z6, z7, z8⟩ := hBA.cells9'
    have fr := hBA.free
    have fr0 := fr 0
    have fr1 := fr 1
    have fr2 := fr 2
    have fr3 := fr 3
    have fr4 := fr 4
    have fr5 := fr 5
    have fr6 := fr 6
    have fr7 := fr 7
    have fr8 := fr 8
    have hX : Drw (set9 wA rb (.int .i64 e) (.int .i64 b) (.int .i64 p) (.int .u64 (s : Nat)) (.int .i64 f) (.int .i64 u) (.int .i64 k) (.float .f64 d) (.float .f64 m)) (set9 uA rb (.int .i64 e) (.int .i64 b) (.int .i64 p) (.int .u64 (s : Nat)) (.int .i64 f) (.int .i64 u) (.int .i64 k) (.float .f64 d) (.float .f64 m)) := ⟨n, by
      rw [huA, set9_drewN]⟩
    rw [← huA]
    obtain ⟨uB, huB⟩ : ∃ uB, uB = set9 wA rb (.int .i64 e) (.int .i64 b) (.int .i64 p) (.int .u64 (s : Nat)) (.int .i64 f) (.int .i64 u) (.int .i64 k) (.float .f64 d) (.float .f64 m) := ⟨_, rfl⟩
    rw [← huB] at hX ⊢
    unfold Go.Proofs.YtpihfgpgdjjfhaaDoor.set9 at hX
    have hst : ∀ (x : Nat) u a m, (store a (.float .f64 x) m).run Tryd.prog u = stored Tryd.prog u a (.float .f64 x) m := fun x u a m => run_store _ u a _ m rfl
    clear fr huB huA hBA
    unfold upTo
    go_simp
  refine wpM_done (by kernel_rfl) ?_
  rintro wB ⟨mB, hwB⟩
  have hBB : Blk wB rb #[.int .i64 e, .int .i64 b, .int .i64 p, .int .u64 (s : Nat), .int .i64 f, .int .i64 u, .int .i64 k, .float .f64 d, .float .f64 m] 25 := by
    rw [hwB, HU1.out]
    exact (HR0.out.set9 _ _ _ _ _ _ _ _ _).drewN _
  have hKB : Kp (fun _ => False) w wB := by
    rw [hwB, HU1.out]
    exact (HK0.out.trans (Kp.set9 _ _ _ _ _ _ _ _ _ _ _) (fun j hj h => by have := HRb.out; omega)).drewN _
  have HKB := Lib.hid hKB
  clear hwB HU1 hU0 HBU hKB
  obtain ⟨s0, s1, s2, s3, s4, s5, s6, s7, s8⟩ := hBB.cells9'
  clear hBB
  go_wp2_with fail
  exact bodyPost_ret (v := .agg #[.int .i64 e, .int .i64 b, .int .i64 p, .int .u64 (s : Nat), .int .i64 f, .int .i64 u, .int .i64 k, .float .f64 d, .float .f64 m]) (by simp [results, Tryd.results11, go_sem, s0, s1, s2, s3, s4, s5, s6, s7, s8]) rfl
    ⟨rfl, HKB.out⟩

set_option maxRecDepth 100000 in
set_option maxHeartbeats 4000000 in
theorem law39_bits (o : Opt) (w : World) :
    Calls Tryd.prog 8 #[.agg (optV o)] w (PlainP (.agg (optC o)) w) := by
  obtain ⟨e, b, p, f, u, k, s, d, m⟩ := o
  unfold optV optC
  obtain ⟨wA, hwA⟩ : ∃ wA, wA = (w.alloc (.cells #[.int .i64 e, .int .i64 b, .int .i64 p, .int .u64 (s : Nat), .int .i64 f, .int .i64 u, .int .i64 k, .float .f64 d, .float .f64 m] 25)).alloc (.cells #[.int .i64 0, .int .i64 0, .int .i64 0, .int .i64 0, .int .i64 0, .int .i64 0, .int .u64 0, .int .u64 0, .int .u64 0] 31) := ⟨_, rfl⟩
  have HA := Lib.hid hwA
  have HB0 : Hid (Blk wA w.heap.size #[.int .i64 e, .int .i64 b, .int .i64 p, .int .u64 (s : Nat), .int .i64 f, .int .i64 u, .int .i64 k, .float .f64 d, .float .f64 m] 25) := Lib.hid (by rw [hwA]; exact (Blk.new w _ _).alloc _)
  have HR0 : Hid (Blk wA (w.heap.size + 1) #[.int .i64 0, .int .i64 0, .int .i64 0, .int .i64 0, .int .i64 0, .int .i64 0, .int .u64 0, .int .u64 0, .int .u64 0] 31) := Lib.hid (by rw [hwA]; exact (World.size_alloc w _) ▸ Blk.new (w.alloc _) _ _)
  have HK0 : Hid (Kp (fun _ => False) w wA) := Lib.hid (by rw [hwA]; exact ((Kp.refl _ w).alloc _).alloc _)
  clear hwA
  go_enter Tryd.func8, Tryd.ntmps8
  go_upto_region 1 with fail
  rw [← HA.out]
  clear HA
  obtain ⟨rb, hrb⟩ : ∃ rb, rb = w.heap.size + 1 := ⟨_, rfl⟩
  rw [← hrb] at HR0 ⊢
  have n1 : rb ≠ w.heap.size := by omega
  have n2 : w.heap.size ≠ rb := by omega
  have HRb := Lib.hid hrb
  clear hrb
  obtain ⟨U, hU0, hU1⟩ : ∃ U : Nat → World, U 0 = wA ∧ ∀ k', U (k' + 1) = set9 wA rb (.int .i64 e) (.int .i64 b) (.int .i64 p) (.int .i64 f) (.int .i64 u) (.int .i64 k) (.int .u64 (s : Nat)) (.int .u64 (d : Nat)) (.int .u64 (m : Nat)) :=
    ⟨fun i => match i with | 0 => _ | _ + 1 => _, rfl, fun _ => rfl⟩
  have hBU : ∀ i, Blk (U i) w.heap.size #[.int .i64 e, .int .i64 b, .int .i64 p, .int .u64 (s : Nat), .int .i64 f, .int .i64 u, .int .i64 k, .float .f64 d, .float .f64 m] 25 := by
    intro i
    match i with
    | 0 => rw [hU0]; exact HB0.out
    | i + 1 => rw [hU1]; exact HB0.out.kp (Kp.set9 _ _ _ _ _ _ _ _ _ _ _) n2
  have HBU := Lib.hid hBU
  have y0 : ∀ i, (U i).cell? ⟨w.heap.size, 0, none⟩ = some (.int .i64 e) := fun i => (hBU i).cell rfl
  have y1 : ∀ i, (U i).cell? ⟨w.heap.size, 1, none⟩ = some (.int .i64 b) := fun i => (hBU i).cell rfl
  have y2 : ∀ i, (U i).cell? ⟨w.heap.size, 2, none⟩ = some (.int .i64 p) := fun i => (hBU i).cell rfl
  have y3 : ∀ i, (U i).cell? ⟨w.heap.size, 3, none⟩ = some (.int .u64 (s : Nat)) := fun i => (hBU i).cell rfl
  have y4 : ∀ i, (U i).cell? ⟨w.heap.size, 4, none⟩ = some (.int .i64 f) := fun i => (hBU i).cell rfl
  have y5 : ∀ i, (U i).cell? ⟨w.heap.size, 5, none⟩ = some (.int .i64 u) := fun i => (hBU i).cell rfl
  have y6 : ∀ i, (U i).cell? ⟨w.heap.size, 6, none⟩ = some (.int .i64 k) := fun i => (hBU i).cell rfl
  have y7 : ∀ i, (U i).cell? ⟨w.heap.size, 7, none⟩ = some (.float .f64 d) := fun i => (hBU i).cell rfl
  have y8 : ∀ i, (U i).cell? ⟨w.heap.size, 8, none⟩ = some (.float .f64 m) := fun i => (hBU i).cell rfl
  clear hBU
  have HU1 := Lib.hid (hU1 0)
  clear hU1
  have hbr := fun x u => bits_run x u
  refine wp_region_moves (by kernel_rfl) U hU0 22 1 (by rfl) (by kernel_rfl) (by kernel_rfl) ?_
  iterate 22 (refine walkM_step (fun J hJ => ?_); go_simp; first | (refine hJ _ ?_; clear hJ J) | (apply Exists.intro; refine ⟨fun _ _ => ?_, hJ _ ?_⟩; (fail); clear hJ J))
  refine walkM_zero ?_
  clear y0 y1 y2 y3 y4 y5 y6 y7 y8 hbr
  refine wpM_one (i := 22) (by kernel_rfl) rfl (by rfl) undef (U 1) ?_ ⟨1, rfl⟩ ?_
  · intro n
    rw [HU1.out]
    clear HU1 hU0 HBU
    obtain ⟨uA, huA⟩ : ∃ uA, uA = wA.drewN n := ⟨_, rfl⟩
    have hBA : Blk uA rb #[.int .i64 0, .int .i64 0, .int .i64 0, .int .i64 0, .int .i64 0, .int .i64 0, .int .u64 0, .int .u64 0, .int .u64 0] 31 := by rw [huA]; exact HR0.out.drewN n
    obtain ⟨z0, z1, z2, z3, z4, z5, z6, z7, z8⟩ := hBA.cells9'
    have fr := hBA.free
    have fr0 := fr 0
    have fr1 := fr 1
    have fr2 := fr 2
    have fr3 := fr 3
    have fr4 := fr 4
    have fr5 := fr 5
    have fr6 := fr 6
    have fr7 := fr 7
    have fr8 := fr 8
    have hX : Drw (set9 wA rb (.int .i64 e) (.int .i64 b) (.int .i64 p) (.int .i64 f) (.int .i64 u) (.int .i64 k) (.int .u64 (s : Nat)) (.int .u64 (d : Nat)) (.int .u64 (m : Nat))) (set9 uA rb (.int .i64 e) (.int .i64 b) (.int .i64 p) (.int .i64 f) (.int .i64 u) (.int .i64 k) (.int .u64 (s : Nat)) (.int .u64 (d : Nat)) (.int .u64 (m : Nat))) := ⟨n, by
      rw [huA, set9_drewN]⟩
    rw [← huA]
    obtain ⟨uB, huB⟩ : ∃ uB, uB = set9 wA rb (.int .i64 e) (.int .i64 b) (.int .i64 p) (.int .i64 f) (.int .i64 u) (.int .i64 k) (.int .u64 (s : Nat)) (.int .u64 (d : Nat)) (.int .u64 (m : Nat)) := ⟨_, rfl⟩
    rw [← huB] at hX ⊢
    unfold Go.Proofs.YtpihfgpgdjjfhaaDoor.set9 at hX
    clear fr huB huA hBA
    unfold upTo
    go_simp
  refine wpM_done (by kernel_rfl) ?_
  rintro wB ⟨mB, hwB⟩
  have hBB : Blk wB rb #[.int .i64 e, .int .i64 b, .int .i64 p, .int .i64 f, .int .i64 u, .int .i64 k, .int .u64 (s : Nat), .int .u64 (d : Nat), .int .u64 (m : Nat)] 31 := by
    rw [hwB, HU1.out]
    exact (HR0.out.set9 _ _ _ _ _ _ _ _ _).drewN _
  have hKB : Kp (fun _ => False) w wB := by
    rw [hwB, HU1.out]
    exact (HK0.out.trans (Kp.set9 _ _ _ _ _ _ _ _ _ _ _) (fun j hj h => by have := HRb.out; omega)).drewN _
  have HKB := Lib.hid hKB
  clear hwB HU1 hU0 HBU hKB
  obtain ⟨s0, s1, s2, s3, s4, s5, s6, s7, s8⟩ := hBB.cells9'
  clear hBB
  go_wp2_with fail
  exact bodyPost_ret (v := .agg #[.int .i64 e, .int .i64 b, .int .i64 p, .int .i64 f, .int .i64 u, .int .i64 k, .int .u64 (s : Nat), .int .u64 (d : Nat), .int .u64 (m : Nat)]) (by simp [results, Tryd.results8, go_sem, s0, s1, s2, s3, s4, s5, s6, s7, s8]) rfl
    ⟨rfl, HKB.out⟩

end Go.Proofs.YtpihfgpgdjjfhaaDoor

/-
  opts.Same; and what both sides' readers leave.
-/
namespace Go.Proofs.YtpihfgpgdjjfhaaDoor
open Go.RowKit

/-- the line of options, as bytes -/
def optB (o : Opt) : ByteArray := ⟨(optT o).toArray⟩
theorem optB_list (o : Opt) : (optB o).toList = optT o := by unfold optB; rw [Lib.toList_data]

theorem beq_eq {a b : Bool} (h : a = true ↔ b = true) : a = b := by cases a <;> cases b <;> simp_all

set_option maxRecDepth 100000 in
set_option maxHeartbeats 4000000 in
theorem opts_Same (o1 o2 : Opt) (w : World) (h1 : o1.ok) (h2 : o2.ok) (ht : Tab w) (hz : Tz w) :
    Calls Tryd.prog 12 #[.agg (optV o1), .agg (optV o2)] w (PlainP (.bool ((optB o1).toList == (optB o2).toList)) w) := by
  obtain ⟨wA, hwA⟩ : ∃ wA, wA = (w.alloc (.cells (optV o1) 25)).alloc (.cells (optV o2) 25) := ⟨_, rfl⟩
  have hKA : Kp (fun _ => False) w wA := by rw [hwA]; exact ((Kp.refl _ w).alloc _).alloc _
  have hB1 : Blk wA w.heap.size (optV o1) 25 := by rw [hwA]; exact (Blk.new w _ _).alloc _
  have hB2 : Blk wA (w.heap.size + 1) (optV o2) 25 := by rw [hwA]; exact (World.size_alloc w _) ▸ Blk.new (w.alloc _) _ _
  obtain ⟨F, hF1, hF2⟩ := still_class wA
  have HW1 := Lib.hid (fun x => opts_Write o1 (F x) h1 (ht.kp (hKA.trans (hF1 x) (fun _ _ h => h))) (hz.kp (hKA.trans (hF1 x) (fun _ _ h => h))))
  have HW2 := Lib.hid (fun x => opts_Write o2 (F x) h2 (ht.kp (hKA.trans (hF1 x) (fun _ _ h => h))) (hz.kp (hKA.trans (hF1 x) (fun _ _ h => h))))
  have hC1 : ∀ x, Blk (F x) w.heap.size #[.int .i64 o1.e, .int .i64 o1.b, .int .i64 o1.p, .int .u64 (o1.s : Nat), .int .i64 o1.f, .int .i64 o1.u, .int .i64 o1.k, .float .f64 o1.d, .float .f64 o1.m] 25 := fun x => hB1.kp (hF1 x) (fun h => h)
  have hC2 : ∀ x, Blk (F x) (w.heap.size + 1) #[.int .i64 o2.e, .int .i64 o2.b, .int .i64 o2.p, .int .u64 (o2.s : Nat), .int .i64 o2.f, .int .i64 o2.u, .int .i64 o2.k, .float .f64 o2.d, .float .f64 o2.m] 25 := fun x => hB2.kp (hF1 x) (fun h => h)
  have HKA := Lib.hid hKA
  have HF1 := Lib.hid hF1
  have HF2 := Lib.hid hF2
  have HA := Lib.hid hwA
  have HC1 := Lib.hid hC1
  have HC2 := Lib.hid hC2
  obtain ⟨T1, hT1⟩ : ∃ T1, T1 = optB o1 := ⟨_, rfl⟩
  obtain ⟨T2, hT2⟩ : ∃ T2, T2 = optB o2 := ⟨_, rfl⟩
  rw [show (⟨(optT o1).toArray⟩ : ByteArray) = T1 from hT1.symm] at HW1
  rw [show (⟨(optT o2).toArray⟩ : ByteArray) = T2 from hT2.symm] at HW2
  rw [← hT1, ← hT2]
  clear hwA hKA hB1 hB2 hF1 hF2 hC1 hC2 hT1 hT2
  unfold optV
  go_enter Tryd.func12, Tryd.ntmps12
  go_upto_region 1 with fail
  unfold optV at HA
  rw [← HA.out]
  clear HA
  obtain ⟨rb, hrb⟩ : ∃ rb, rb = w.heap.size + 1 := ⟨_, rfl⟩
  rw [← hrb] at HC2 ⊢
  clear hrb
  have a0 := fun x => ((HC1.out x).cell (i := 0) rfl)
  have a1 := fun x => ((HC1.out x).cell (i := 1) rfl)
  have a2 := fun x => ((HC1.out x).cell (i := 2) rfl)
  have a3 := fun x => ((HC1.out x).cell (i := 3) rfl)
  have a4 := fun x => ((HC1.out x).cell (i := 4) rfl)
  have a5 := fun x => ((HC1.out x).cell (i := 5) rfl)
  have a6 := fun x => ((HC1.out x).cell (i := 6) rfl)
  have a7 := fun x => ((HC1.out x).cell (i := 7) rfl)
  have a8 := fun x => ((HC1.out x).cell (i := 8) rfl)
  have b0 := fun x => ((HC2.out x).cell (i := 0) rfl)
  have b1 := fun x => ((HC2.out x).cell (i := 1) rfl)
  have b2 := fun x => ((HC2.out x).cell (i := 2) rfl)
  have b3 := fun x => ((HC2.out x).cell (i := 3) rfl)
  have b4 := fun x => ((HC2.out x).cell (i := 4) rfl)
  have b5 := fun x => ((HC2.out x).cell (i := 5) rfl)
  have b6 := fun x => ((HC2.out x).cell (i := 6) rfl)
  have b7 := fun x => ((HC2.out x).cell (i := 7) rfl)
  have b8 := fun x => ((HC2.out x).cell (i := 8) rfl)
  refine wp_region_kept (by kernel_rfl) (by kernel_rfl) HF2.out ?_
  unfold optV at HW1 HW2
  iterate 2 (refine wpQuiet_step (fun J hJ => ?_); go_simp; first | (refine hJ _ ?_; clear hJ J) | (apply Exists.intro; refine ⟨fun _ => ?_, hJ _ ?_⟩; (exact Calls.still_of HF1.out HF2.out (HW1.out _)); clear hJ J))
  iterate 2 (refine wpQuiet_step (fun J hJ => ?_); go_simp; first | (refine hJ _ ?_; clear hJ J) | (apply Exists.intro; refine ⟨fun _ => ?_, hJ _ ?_⟩; (exact Calls.still_of HF1.out HF2.out (HW2.out _)); clear hJ J))
  iterate 2 (refine wpQuiet_step (fun J hJ => ?_); go_simp; first | (refine hJ _ ?_; clear hJ J) | (apply Exists.intro; refine ⟨fun _ => ?_, hJ _ ?_⟩; (fail); clear hJ J))
  refine wpQuiet_nil ?_
  rintro wB ⟨x, rfl⟩
  go_wp2_with fail
  go_ret
  exact ⟨rfl, HKA.out.trans (HF1.out x) (fun _ _ h => h)⟩

end Go.Proofs.YtpihfgpgdjjfhaaDoor

/-
  latchetlaw39.lives: the example.
-/
namespace Go.Proofs.YtpihfgpgdjjfhaaDoor
open Go.RowKit

def oex : Opt := ⟨2, 9, 0, 100, 1, 0, 1, 4602678819172646912, 4607182418800017408⟩
theorem oex_ok : oex.ok := ⟨⟨by decide, by decide⟩, ⟨by decide, by decide⟩, ⟨by decide, by decide⟩, ⟨by decide, by decide⟩, ⟨by decide, by decide⟩, ⟨by decide, by decide⟩, by decide, by decide, by decide⟩
theorem oex_can : oex.can := ⟨oex_ok, by decide +kernel, by decide +kernel⟩

def exS : ByteArray := ⟨(([101, 110, 103, 105, 110, 101, 32, 50, 32, 98, 111, 117, 110, 100, 32, 57, 32, 112, 114, 111, 112, 32, 48, 32, 115, 101, 101, 100, 32, 48, 48, 48, 48, 48, 48, 48, 48, 48, 48, 48, 48, 48, 48, 48, 49, 32, 102, 117, 101, 108, 32, 49, 48, 48, 32, 117] : List UInt8).append [110, 105, 116, 32, 49, 32, 107, 101, 101, 112, 32, 48, 32, 100, 101, 99, 97, 121, 32, 51, 102, 101, 48, 48, 48, 48, 48, 48, 48, 48, 48, 48, 48, 48, 48, 32, 98, 117, 109, 112, 32, 51, 102, 102, 48, 48, 48, 48, 48, 48, 48, 48, 48, 48, 48, 48, 48]).toArray⟩

theorem exS_opt : exS.data.toList = optT oex := by decide +kernel
theorem exS_size : exS.size ≤ 2000 := by decide +kernel

theorem eqEx (w : World) : (Op.equalIn 10000 25 (.agg #[.int .i64 2, .int .i64 9, .int .i64 0, .int .u64 1, .int .i64 100, .int .i64 1, .int .i64 0, .float .f64 4602678819172646912, .float .f64 4607182418800017408]) (.agg #[.int .i64 2, .int .i64 9, .int .i64 0, .int .u64 1, .int .i64 100, .int .i64 1, .int .i64 0, .float .f64 4602678819172646912, .float .f64 4607182418800017408])).run Tryd.prog w = .ok true w := by
  kernel_rfl

set_option maxRecDepth 100000 in
set_option maxHeartbeats 4000000 in
theorem law39_lives (w : World) (ht : Tab w) (hz : Tz w) (he : Ev w) (hm : ML w) :
    Calls Tryd.prog 9 #[] w (PlainP (.bool true) w) := by
  have HR := Lib.hid (opts_Read exS w exS_size ht hz he hm)
  have HT := Lib.hid (And.intro ht hz)
  clear ht hz he hm
  obtain ⟨S, hS⟩ : ∃ S, S = exS := ⟨_, rfl⟩
  have HE := Lib.hid hS
  rw [← hS] at HR
  unfold exS at hS
  go_enter Tryd.func9, Tryd.ntmps9
  go_upto_region 2 with fail
  rw [← hS]
  clear hS
  have hst : ∀ (x : Nat) u a m, (store a (.float .f64 x) m).run Tryd.prog u = stored Tryd.prog u a (.float .f64 x) m := fun x u a m => run_store _ u a _ m rfl
  go_wp2_with fail
  refine HR.out.mono ?_
  rintro e wB ⟨o1, -, hcan, hcase, hK⟩
  have ho : o1 = oex := hcan oex oex_can (by rw [HE.out]; exact exS_opt)
  subst ho
  rcases hcase with ⟨-, rfl⟩ | ⟨hne, -⟩
  · have HKB := Lib.hid hK
    clear hK hcan HR
    unfold optV oex
    go_upto_region 3 with fail
    obtain ⟨wC, hwC⟩ : ∃ wC, wC = wB.alloc (.cells #[.int .i64 2, .int .i64 9, .int .i64 0, .int .u64 1, .int .i64 100, .int .i64 1, .int .i64 0, .float .f64 4602678819172646912, .float .f64 4607182418800017408] 25) := ⟨_, rfl⟩
    have hBC : Blk wC wB.heap.size #[.int .i64 2, .int .i64 9, .int .i64 0, .int .u64 1, .int .i64 100, .int .i64 1, .int .i64 0, .float .f64 4602678819172646912, .float .f64 4607182418800017408] 25 := by rw [hwC]; exact Blk.new _ _ _
    have hKC : Kp (fun _ => False) w wC := by rw [hwC]; exact HKB.out.alloc _
    rw [← hwC]
    clear hwC hst
    have hWr := opts_Write oex wC oex_ok (HT.out.1.kp hKC) (HT.out.2.kp hKC)
    obtain ⟨T, hT⟩ : ∃ T : ByteArray, T = ⟨(optT oex).toArray⟩ := ⟨_, rfl⟩
    rw [← hT] at hWr
    have hq : (T.toList == S.toList) = true := by
      rw [HE.out, hT, Lib.toList_data, Lib.toList_data exS, exS_opt]
      simp
    unfold optV oex at hWr
    have HWr := Lib.hid hWr
    have HKC := Lib.hid hKC
    obtain ⟨g, hg⟩ : ∃ g, g = wB.heap.size := ⟨_, rfl⟩
    rw [← hg] at hBC ⊢
    obtain ⟨z0, z1, z2, z3, z4, z5, z6, z7, z8⟩ := hBC.cells9'
    have hEx := fun u => eqEx u
    clear hBC hKC hWr hT hg
    go_wp2_with fail
    refine HWr.out.mono ?_
    rintro e wD ⟨rfl, hK⟩
    have HKD := Lib.hid (HKC.out.trans hK (fun _ _ h => h))
    clear hK
    go_wp2_with fail
    go_ret
    exact ⟨rfl, HKD.out⟩
  · exact absurd (by rw [HE.out]; exact exS_opt) hne

end Go.Proofs.YtpihfgpgdjjfhaaDoor

/-
  latchetlaw39.OptsReads: the law's walk.
-/
namespace Go.Proofs.YtpihfgpgdjjfhaaDoor
open Go.RowKit

def canO (o : Opt) : Opt := ⟨o.e, o.b, o.p, o.f, o.u, o.k, o.s, canon o.d, canon o.m⟩
theorem canO_T (o : Opt) : optT (canO o) = optT o := by
  unfold optT optW canO
  simp only [canon_canon]
theorem canO_can {o : Opt} (h : o.ok) : (canO o).can := ⟨⟨h.e, h.b, h.p, h.f, h.u, h.k, h.s, canon_lt h.d, canon_lt h.m⟩, canon_canon _, canon_canon _⟩

/-- what a reader says of a line -/
def Verd (s : ByteArray) (x : Opt) (n : Int) : Prop := (n = 0 ∧ s.data.toList = optT x) ∨ (n = 2 ∧ x = oz ∧ ∀ o : Opt, o.ok → s.data.toList ≠ optT o)

theorem Verd.same {s : ByteArray} {x y : Opt} {n m : Int} (h : Verd s x n) (k : Verd s y m) (hx : x.ok) (hy : y.ok) : n = m ∧ optT x = optT y := by
  rcases h with ⟨rfl, h⟩ | ⟨rfl, rfl, h⟩
  · rcases k with ⟨rfl, k⟩ | ⟨rfl, rfl, k⟩
    · exact ⟨rfl, h.symm.trans k⟩
    · exact absurd h (k _ hx)
  · rcases k with ⟨rfl, k⟩ | ⟨rfl, rfl, k⟩
    · exact absurd k (h _ hy)
    · exact ⟨rfl, rfl⟩

theorem verd_of {s : ByteArray} {o1 : Opt} (hcan : ∀ o : Opt, o.can → s.data.toList = optT o → o1 = o) (hne : s.data.toList ≠ optT o1) : ∀ o : Opt, o.ok → s.data.toList ≠ optT o := fun o ho e => by
  have := hcan (canO o) (canO_can ho) (by rw [canO_T]; exact e)
  rw [this, canO_T] at hne
  exact hne e

theorem read_said {s : ByteArray} {w w' : World} {e : Ending} (h : OptReadP s w e w') : ∃ x n, x.ok ∧ e = .returned (.tuple #[.agg (optV x), .int .i64 n]) ∧ Verd s x n ∧ Kp (fun _ => False) w w' := by
  obtain ⟨o1, hok, hcan, ⟨he, rfl⟩ | ⟨he, rfl⟩, hK⟩ := h
  · exact ⟨o1, 0, hok, rfl, .inl ⟨rfl, he⟩, hK⟩
  · exact ⟨oz, 2, oz_ok, rfl, .inr ⟨rfl, rfl, verd_of hcan he⟩, hK⟩

theorem refread_said {s : ByteArray} {w w' : World} {e : Ending} (h : RefReadP s w e w') : ∃ x n, x.ok ∧ e = .returned (.tuple #[.agg (optC x), .int .i64 n]) ∧ Verd s x n ∧ Kp (fun _ => False) w w' := by
  obtain ⟨o1, hok, hcan, ⟨he, rfl⟩ | ⟨he, rfl⟩, hK⟩ := h
  · exact ⟨o1, 0, hok, rfl, .inl ⟨rfl, he⟩, hK⟩
  · exact ⟨oz, 2, oz_ok, rfl, .inr ⟨rfl, rfl, verd_of hcan he⟩, hK⟩

/-- what the listed variables hold -/
structure Vars (w : World) : Prop where
  tab : Tab w
  tz : Tz w
  ev : Ev w
  ml : ML w
theorem Vars.kp {w w' : World} (h : Vars w) (k : Kp (fun _ => False) w w') : Vars w' := ⟨h.tab.kp k, h.tz.kp k, h.ev.kp k, h.ml.kp k⟩

set_option maxRecDepth 100000 in
set_option maxHeartbeats 4000000 in
theorem optsReads_in (s S : ByteArray) (w : World) (hv : Vars w) (h : (s.size ≤ 1000 ∧ S = s) ∨ (1000 < s.size ∧ S = s.extract 0 1000)) :
    Calls Tryd.prog 3 #[.string s] w (PlainP (.bool true) w) := by
  have hz : S.size ≤ 1000 := by
    rcases h with ⟨h1, rfl⟩ | ⟨h1, rfl⟩
    · exact h1
    · rw [ByteArray.size_extract]; omega
  have HR := Lib.hid (fun (u : World) (hu : Vars u) => opts_Read S u (by omega) hu.tab hu.tz hu.ev hu.ml)
  have HQ := Lib.hid (fun (u : World) => ref39_Read S u (by omega))
  have HV := Lib.hid hv
  have hst : ∀ (x : Nat) u a m, (store a (.float .f64 x) m).run Tryd.prog u = stored Tryd.prog u a (.float .f64 x) m := fun x u a m => run_store _ u a _ m rfl
  clear hz hv
  rcases h with ⟨h1, rfl⟩ | ⟨h1, hte⟩
  · have d1 : decide ((1000 : Int) < (S.size : Int)) = false := by simp; omega
    clear h1
    go_enter Tryd.func3, Tryd.ntmps3
    go_upto_region 3 with fail
    clear d1
    go_wp2_with fail
    refine (HR.out w HV.out).mono ?_
    rintro e1 wB hP
    obtain ⟨x, n, hxok, rfl, hxv, hKB⟩ := read_said hP
    have HX := Lib.hid (And.intro hxok hxv)
    have HKB := Lib.hid hKB
    clear hP hxok hxv hKB
    unfold optV
    go_upto_region 4 with fail
    obtain ⟨wC, hwC⟩ : ∃ wC, wC = wB.alloc (.cells #[.int .i64 x.e, .int .i64 x.b, .int .i64 x.p, .int .u64 (x.s : Nat), .int .i64 x.f, .int .i64 x.u, .int .i64 x.k, .float .f64 x.d, .float .f64 x.m] 25) := ⟨_, rfl⟩
    have HBC : Hid (Blk wC wB.heap.size #[.int .i64 x.e, .int .i64 x.b, .int .i64 x.p, .int .u64 (x.s : Nat), .int .i64 x.f, .int .i64 x.u, .int .i64 x.k, .float .f64 x.d, .float .f64 x.m] 25) := Lib.hid (by rw [hwC]; exact Blk.new _ _ _)
    have HKC : Hid (Kp (fun _ => False) w wC) := Lib.hid (by rw [hwC]; exact HKB.out.alloc _)
    rw [← hwC]
    clear hwC HKB
    obtain ⟨g, hg⟩ : ∃ g, g = wB.heap.size := ⟨_, rfl⟩
    rw [← hg] at HBC ⊢
    clear hg
    go_wp2_with fail
    refine (HQ.out wC).mono ?_
    rintro e2 wD hP
    obtain ⟨y, m, hyok, rfl, hyv, hKD⟩ := refread_said hP
    have HY := Lib.hid (And.intro hyok hyv)
    have HKD := Lib.hid (HKC.out.trans hKD (fun _ _ h => h))
    have HBD := Lib.hid (HBC.out.kp hKD (fun h => h))
    clear hP hyok hyv hKD HKC HBC
    unfold optC
    go_upto_region 5 with fail
    obtain ⟨wE, hwE⟩ : ∃ wE, wE = wD.alloc (.cells #[.int .i64 y.e, .int .i64 y.b, .int .i64 y.p, .int .i64 y.f, .int .i64 y.u, .int .i64 y.k, .int .u64 (y.s : Nat), .int .u64 (y.d : Nat), .int .u64 (y.m : Nat)] 31) := ⟨_, rfl⟩
    have HCE : Hid (Blk wE wD.heap.size #[.int .i64 y.e, .int .i64 y.b, .int .i64 y.p, .int .i64 y.f, .int .i64 y.u, .int .i64 y.k, .int .u64 (y.s : Nat), .int .u64 (y.d : Nat), .int .u64 (y.m : Nat)] 31) := Lib.hid (by rw [hwE]; exact Blk.new _ _ _)
    have HKE : Hid (Kp (fun _ => False) w wE) := Lib.hid (by rw [hwE]; exact HKD.out.alloc _)
    have HBE : Hid (Blk wE g #[.int .i64 x.e, .int .i64 x.b, .int .i64 x.p, .int .u64 (x.s : Nat), .int .i64 x.f, .int .i64 x.u, .int .i64 x.k, .float .f64 x.d, .float .f64 x.m] 25) := Lib.hid (by rw [hwE]; exact HBD.out.alloc _)
    rw [← hwE]
    clear hwE HKD HBD
    obtain ⟨h, hh⟩ : ∃ h, h = wD.heap.size := ⟨_, rfl⟩
    rw [← hh] at HCE ⊢
    clear hh
    obtain ⟨hnm, hxy⟩ := HX.out.2.same HY.out.2 HX.out.1 HY.out.1
    subst hnm
    have hnn : decide (n = n) = true := decide_eq_true rfl
    obtain ⟨F, hF1, hF2⟩ := still_class wE
    have HF1 := Lib.hid hF1
    have HF2 := Lib.hid hF2
    clear hF1 hF2
    have HbX := Lib.hid (fun u => law39_bits x (F u))
    have HwX := Lib.hid (fun u => ref39_Write x (F u) HX.out.1)
    have HwY := Lib.hid (fun u => ref39_Write y (F u) HY.out.1)
    have HLv := Lib.hid (fun u => law39_lives (F u) (HV.out.kp (HKE.out.trans (HF1.out u) (fun _ _ h => h))).tab (HV.out.kp (HKE.out.trans (HF1.out u) (fun _ _ h => h))).tz (HV.out.kp (HKE.out.trans (HF1.out u) (fun _ _ h => h))).ev (HV.out.kp (HKE.out.trans (HF1.out u) (fun _ _ h => h))).ml)
    obtain ⟨T1, hT1⟩ : ∃ T1 : ByteArray, T1 = ⟨(optT x).toArray⟩ := ⟨_, rfl⟩
    have hT2 : T1 = ⟨(optT y).toArray⟩ := by rw [hT1, hxy]
    rw [← hT1] at HwX
    rw [← hT2] at HwY
    clear hT1 hT2 hxy
    have hq : (T1.toList == T1.toList) = true := by simp
    unfold optV at HbX
    unfold optC at HbX HwX HwY
    have a0 := fun u => ((HBE.out.kp (HF1.out u) (fun h => h)).cell (i := 0) rfl)
    have a1 := fun u => ((HBE.out.kp (HF1.out u) (fun h => h)).cell (i := 1) rfl)
    have a2 := fun u => ((HBE.out.kp (HF1.out u) (fun h => h)).cell (i := 2) rfl)
    have a3 := fun u => ((HBE.out.kp (HF1.out u) (fun h => h)).cell (i := 3) rfl)
    have a4 := fun u => ((HBE.out.kp (HF1.out u) (fun h => h)).cell (i := 4) rfl)
    have a5 := fun u => ((HBE.out.kp (HF1.out u) (fun h => h)).cell (i := 5) rfl)
    have a6 := fun u => ((HBE.out.kp (HF1.out u) (fun h => h)).cell (i := 6) rfl)
    have a7 := fun u => ((HBE.out.kp (HF1.out u) (fun h => h)).cell (i := 7) rfl)
    have a8 := fun u => ((HBE.out.kp (HF1.out u) (fun h => h)).cell (i := 8) rfl)
    have b0 := fun u => ((HCE.out.kp (HF1.out u) (fun h => h)).cell (i := 0) rfl)
    have b1 := fun u => ((HCE.out.kp (HF1.out u) (fun h => h)).cell (i := 1) rfl)
    have b2 := fun u => ((HCE.out.kp (HF1.out u) (fun h => h)).cell (i := 2) rfl)
    have b3 := fun u => ((HCE.out.kp (HF1.out u) (fun h => h)).cell (i := 3) rfl)
    have b4 := fun u => ((HCE.out.kp (HF1.out u) (fun h => h)).cell (i := 4) rfl)
    have b5 := fun u => ((HCE.out.kp (HF1.out u) (fun h => h)).cell (i := 5) rfl)
    have b6 := fun u => ((HCE.out.kp (HF1.out u) (fun h => h)).cell (i := 6) rfl)
    have b7 := fun u => ((HCE.out.kp (HF1.out u) (fun h => h)).cell (i := 7) rfl)
    have b8 := fun u => ((HCE.out.kp (HF1.out u) (fun h => h)).cell (i := 8) rfl)
    refine wp_region_kept (by kernel_rfl) (by kernel_rfl) HF2.out ?_
    iterate 6 (refine wpQuiet_step (fun J hJ => ?_); go_simp; first | (refine hJ _ ?_; clear hJ J) | (apply Exists.intro; refine ⟨fun _ => ?_, hJ _ ?_⟩; (exact Calls.still_of HF1.out HF2.out (HbX.out _)); clear hJ J))
    (refine wpQuiet_step (fun J hJ => ?_); go_simp; first | (refine hJ _ ?_; clear hJ J) | (apply Exists.intro; refine ⟨fun _ => ?_, hJ _ ?_⟩; (exact Calls.still_of HF1.out HF2.out (HwX.out _)); clear hJ J))
    iterate 2 (refine wpQuiet_step (fun J hJ => ?_); go_simp; first | (refine hJ _ ?_; clear hJ J) | (apply Exists.intro; refine ⟨fun _ => ?_, hJ _ ?_⟩; (exact Calls.still_of HF1.out HF2.out (HwY.out _)); clear hJ J))
    iterate 3 (refine wpQuiet_step (fun J hJ => ?_); go_simp; first | (refine hJ _ ?_; clear hJ J) | (apply Exists.intro; refine ⟨fun _ => ?_, hJ _ ?_⟩; (fail); clear hJ J))
    (refine wpQuiet_step (fun J hJ => ?_); go_simp; first | (refine hJ _ ?_; clear hJ J) | (apply Exists.intro; refine ⟨fun _ => ?_, hJ _ ?_⟩; (exact Calls.still_of HF1.out HF2.out (HLv.out _)); clear hJ J))
    iterate 2 (refine wpQuiet_step (fun J hJ => ?_); go_simp; first | (refine hJ _ ?_; clear hJ J) | (apply Exists.intro; refine ⟨fun _ => ?_, hJ _ ?_⟩; (fail); clear hJ J))
    refine wpQuiet_nil ?_
    rintro wF ⟨u, rfl⟩
    go_wp2_with fail
    go_ret
    exact ⟨rfl, HKE.out.trans (HF1.out u) (fun _ _ h => h)⟩
  · have d1 : decide ((1000 : Int) < (s.size : Int)) = true := by simp; omega
    have d2 : (1000 : Int) ≤ (s.size : Int) := by omega
    have d3 : decide ((1000 : Int) ≤ (s.size : Int)) = true := by simp; omega
    have d4 : 1000 ≤ s.size := by omega
    clear h1
    go_enter Tryd.func3, Tryd.ntmps3
    go_upto_region 3 with fail
    rw [← hte]
    clear d1 d2 d3 d4 hte
    go_wp2_with fail
    refine (HR.out w HV.out).mono ?_
    rintro e1 wB hP
    obtain ⟨x, n, hxok, rfl, hxv, hKB⟩ := read_said hP
    have HX := Lib.hid (And.intro hxok hxv)
    have HKB := Lib.hid hKB
    clear hP hxok hxv hKB
    unfold optV
    go_upto_region 4 with fail
    obtain ⟨wC, hwC⟩ : ∃ wC, wC = wB.alloc (.cells #[.int .i64 x.e, .int .i64 x.b, .int .i64 x.p, .int .u64 (x.s : Nat), .int .i64 x.f, .int .i64 x.u, .int .i64 x.k, .float .f64 x.d, .float .f64 x.m] 25) := ⟨_, rfl⟩
    have HBC : Hid (Blk wC wB.heap.size #[.int .i64 x.e, .int .i64 x.b, .int .i64 x.p, .int .u64 (x.s : Nat), .int .i64 x.f, .int .i64 x.u, .int .i64 x.k, .float .f64 x.d, .float .f64 x.m] 25) := Lib.hid (by rw [hwC]; exact Blk.new _ _ _)
    have HKC : Hid (Kp (fun _ => False) w wC) := Lib.hid (by rw [hwC]; exact HKB.out.alloc _)
    rw [← hwC]
    clear hwC HKB
    obtain ⟨g, hg⟩ : ∃ g, g = wB.heap.size := ⟨_, rfl⟩
    rw [← hg] at HBC ⊢
    clear hg
    go_wp2_with fail
    refine (HQ.out wC).mono ?_
    rintro e2 wD hP
    obtain ⟨y, m, hyok, rfl, hyv, hKD⟩ := refread_said hP
    have HY := Lib.hid (And.intro hyok hyv)
    have HKD := Lib.hid (HKC.out.trans hKD (fun _ _ h => h))
    have HBD := Lib.hid (HBC.out.kp hKD (fun h => h))
    clear hP hyok hyv hKD HKC HBC
    unfold optC
    go_upto_region 5 with fail
    obtain ⟨wE, hwE⟩ : ∃ wE, wE = wD.alloc (.cells #[.int .i64 y.e, .int .i64 y.b, .int .i64 y.p, .int .i64 y.f, .int .i64 y.u, .int .i64 y.k, .int .u64 (y.s : Nat), .int .u64 (y.d : Nat), .int .u64 (y.m : Nat)] 31) := ⟨_, rfl⟩
    have HCE : Hid (Blk wE wD.heap.size #[.int .i64 y.e, .int .i64 y.b, .int .i64 y.p, .int .i64 y.f, .int .i64 y.u, .int .i64 y.k, .int .u64 (y.s : Nat), .int .u64 (y.d : Nat), .int .u64 (y.m : Nat)] 31) := Lib.hid (by rw [hwE]; exact Blk.new _ _ _)
    have HKE : Hid (Kp (fun _ => False) w wE) := Lib.hid (by rw [hwE]; exact HKD.out.alloc _)
    have HBE : Hid (Blk wE g #[.int .i64 x.e, .int .i64 x.b, .int .i64 x.p, .int .u64 (x.s : Nat), .int .i64 x.f, .int .i64 x.u, .int .i64 x.k, .float .f64 x.d, .float .f64 x.m] 25) := Lib.hid (by rw [hwE]; exact HBD.out.alloc _)
    rw [← hwE]
    clear hwE HKD HBD
    obtain ⟨h, hh⟩ : ∃ h, h = wD.heap.size := ⟨_, rfl⟩
    rw [← hh] at HCE ⊢
    clear hh
    obtain ⟨hnm, hxy⟩ := HX.out.2.same HY.out.2 HX.out.1 HY.out.1
    subst hnm
    have hnn : decide (n = n) = true := decide_eq_true rfl
    obtain ⟨F, hF1, hF2⟩ := still_class wE
    have HF1 := Lib.hid hF1
    have HF2 := Lib.hid hF2
    clear hF1 hF2
    have HbX := Lib.hid (fun u => law39_bits x (F u))
    have HwX := Lib.hid (fun u => ref39_Write x (F u) HX.out.1)
    have HwY := Lib.hid (fun u => ref39_Write y (F u) HY.out.1)
    have HLv := Lib.hid (fun u => law39_lives (F u) (HV.out.kp (HKE.out.trans (HF1.out u) (fun _ _ h => h))).tab (HV.out.kp (HKE.out.trans (HF1.out u) (fun _ _ h => h))).tz (HV.out.kp (HKE.out.trans (HF1.out u) (fun _ _ h => h))).ev (HV.out.kp (HKE.out.trans (HF1.out u) (fun _ _ h => h))).ml)
    obtain ⟨T1, hT1⟩ : ∃ T1 : ByteArray, T1 = ⟨(optT x).toArray⟩ := ⟨_, rfl⟩
    have hT2 : T1 = ⟨(optT y).toArray⟩ := by rw [hT1, hxy]
    rw [← hT1] at HwX
    rw [← hT2] at HwY
    clear hT1 hT2 hxy
    have hq : (T1.toList == T1.toList) = true := by simp
    unfold optV at HbX
    unfold optC at HbX HwX HwY
    have a0 := fun u => ((HBE.out.kp (HF1.out u) (fun h => h)).cell (i := 0) rfl)
    have a1 := fun u => ((HBE.out.kp (HF1.out u) (fun h => h)).cell (i := 1) rfl)
    have a2 := fun u => ((HBE.out.kp (HF1.out u) (fun h => h)).cell (i := 2) rfl)
    have a3 := fun u => ((HBE.out.kp (HF1.out u) (fun h => h)).cell (i := 3) rfl)
    have a4 := fun u => ((HBE.out.kp (HF1.out u) (fun h => h)).cell (i := 4) rfl)
    have a5 := fun u => ((HBE.out.kp (HF1.out u) (fun h => h)).cell (i := 5) rfl)
    have a6 := fun u => ((HBE.out.kp (HF1.out u) (fun h => h)).cell (i := 6) rfl)
    have a7 := fun u => ((HBE.out.kp (HF1.out u) (fun h => h)).cell (i := 7) rfl)
    have a8 := fun u => ((HBE.out.kp (HF1.out u) (fun h => h)).cell (i := 8) rfl)
    have b0 := fun u => ((HCE.out.kp (HF1.out u) (fun h => h)).cell (i := 0) rfl)
    have b1 := fun u => ((HCE.out.kp (HF1.out u) (fun h => h)).cell (i := 1) rfl)
    have b2 := fun u => ((HCE.out.kp (HF1.out u) (fun h => h)).cell (i := 2) rfl)
    have b3 := fun u => ((HCE.out.kp (HF1.out u) (fun h => h)).cell (i := 3) rfl)
    have b4 := fun u => ((HCE.out.kp (HF1.out u) (fun h => h)).cell (i := 4) rfl)
    have b5 := fun u => ((HCE.out.kp (HF1.out u) (fun h => h)).cell (i := 5) rfl)
    have b6 := fun u => ((HCE.out.kp (HF1.out u) (fun h => h)).cell (i := 6) rfl)
    have b7 := fun u => ((HCE.out.kp (HF1.out u) (fun h => h)).cell (i := 7) rfl)
    have b8 := fun u => ((HCE.out.kp (HF1.out u) (fun h => h)).cell (i := 8) rfl)
    refine wp_region_kept (by kernel_rfl) (by kernel_rfl) HF2.out ?_
    iterate 6 (refine wpQuiet_step (fun J hJ => ?_); go_simp; first | (refine hJ _ ?_; clear hJ J) | (apply Exists.intro; refine ⟨fun _ => ?_, hJ _ ?_⟩; (exact Calls.still_of HF1.out HF2.out (HbX.out _)); clear hJ J))
    (refine wpQuiet_step (fun J hJ => ?_); go_simp; first | (refine hJ _ ?_; clear hJ J) | (apply Exists.intro; refine ⟨fun _ => ?_, hJ _ ?_⟩; (exact Calls.still_of HF1.out HF2.out (HwX.out _)); clear hJ J))
    iterate 2 (refine wpQuiet_step (fun J hJ => ?_); go_simp; first | (refine hJ _ ?_; clear hJ J) | (apply Exists.intro; refine ⟨fun _ => ?_, hJ _ ?_⟩; (exact Calls.still_of HF1.out HF2.out (HwY.out _)); clear hJ J))
    iterate 3 (refine wpQuiet_step (fun J hJ => ?_); go_simp; first | (refine hJ _ ?_; clear hJ J) | (apply Exists.intro; refine ⟨fun _ => ?_, hJ _ ?_⟩; (fail); clear hJ J))
    (refine wpQuiet_step (fun J hJ => ?_); go_simp; first | (refine hJ _ ?_; clear hJ J) | (apply Exists.intro; refine ⟨fun _ => ?_, hJ _ ?_⟩; (exact Calls.still_of HF1.out HF2.out (HLv.out _)); clear hJ J))
    iterate 2 (refine wpQuiet_step (fun J hJ => ?_); go_simp; first | (refine hJ _ ?_; clear hJ J) | (apply Exists.intro; refine ⟨fun _ => ?_, hJ _ ?_⟩; (fail); clear hJ J))
    refine wpQuiet_nil ?_
    rintro wF ⟨u, rfl⟩
    go_wp2_with fail
    go_ret
    exact ⟨rfl, HKE.out.trans (HF1.out u) (fun _ _ h => h)⟩

theorem optsReads_walk (s : ByteArray) (_hs : s.size ≤ maxLen) (w : World) (ht : Tab w) (hx : Tz w ∧ Ev w) (hm : ML w) :
    Calls Tryd.prog 3 #[.string s] w fun e w' => e = .returned (.bool true) ∧ Below w.heap.size w w' := by
  refine Calls.mono (R := PlainP (.bool true) w) ?_ (fun e w' ⟨he, hk⟩ => ⟨he, hk.below (Nat.le_refl _) (fun _ _ h => h)⟩)
  by_cases h : s.size ≤ 1000
  · exact optsReads_in s s w ⟨ht, hx.1, hx.2, hm⟩ (.inl ⟨h, rfl⟩)
  · exact optsReads_in s _ w ⟨ht, hx.1, hx.2, hm⟩ (.inr ⟨by omega, rfl⟩)

end Go.Proofs.YtpihfgpgdjjfhaaDoor

/-
  How options of bits that came in are opened.
-/
namespace Go.Proofs.YtpihfgpgdjjfhaaDoor
open Go.RowKit Go.ChangeShapes Go.WideShapes Go.ChangeAt

/-- options that came in -/
def OptArg (_W : World) (v : Value) : Prop := ∃ o : Opt, o.ok ∧ v = .agg (optC o)

theorem optC_cells : Tryd.prog.cellsOf 31 = 9 := by kernel_rfl
theorem six_cells : Tryd.prog.cellsOf 29 = 6 := by kernel_rfl
theorem ointc : Tryd.prog.cellsOf 3 = 1 := by kernel_rfl
theorem ou64c : Tryd.prog.cellsOf 22 = 1 := by kernel_rfl

theorem okN_of {n : Int} (h : (Lit.int .i64 n).wf = true) : okN n := by
  simp [Lit.wf, IntKind.min, IntKind.max, IntKind.signed, IntKind.bits] at h
  exact ⟨by omega, by omega⟩
theorem u64_of {n : Int} (h : (Lit.int .u64 n).wf = true) : 0 ≤ n ∧ n < 18446744073709551616 := by
  simp [Lit.wf, IntKind.min, IntKind.max, IntKind.signed, IntKind.bits] at h
  exact ⟨by omega, by omega⟩

set_option maxRecDepth 100000 in
theorem open_optArg {H : Type} {enc : TypeId × Value → H} {W : World} {base : Nat} {v : Value} {d : DataW H} {ps : List MemPlace}
    (hv : Value.okWide Tryd.prog W .any base 31 v) (h : DataW.Trod enc Tryd.prog W 0 (fun _ => true) true 31 v d ps) : OptArg W v := by
  obtain ⟨cs, rfl, hsz⟩ := okWide_struct Tryd.underlying31 hv
  obtain ⟨l⟩ := cs
  match l, hsz.trans optC_cells with
  | [c0, c1, c2, c3, c4, c5, c6, c7, c8], _ =>
    obtain ⟨fuel, hf⟩ := h
    obtain ⟨xs, n, _, _, _, hlen, hg⟩ := DataW.trod_struct Tryd.underlying31 hf
    have g0 : DataW.trod enc Tryd.prog W 0 (fun _ => true) true n 29 [c0, c1, c2, c3, c4, c5] = xs[0]? := by simpa [Value.cells, six_cells, ou64c] using hg 0 _ rfl
    have g1 : DataW.trod enc Tryd.prog W 0 (fun _ => true) true n 22 [c6] = xs[1]? := by simpa [Value.cells, six_cells, ou64c] using hg 1 _ rfl
    have g2 : DataW.trod enc Tryd.prog W 0 (fun _ => true) true n 22 [c7] = xs[2]? := by simpa [Value.cells, six_cells, ou64c] using hg 2 _ rfl
    have g3 : DataW.trod enc Tryd.prog W 0 (fun _ => true) true n 22 [c8] = xs[3]? := by simpa [Value.cells, six_cells, ou64c] using hg 3 _ rfl
    match xs, hlen with
    | [y0, y1, y2, y3], _ =>
      obtain ⟨x6, e6, _, w6⟩ := DataW.trod_int Tryd.underlying22 g1
      obtain ⟨x7, e7, _, w7⟩ := DataW.trod_int Tryd.underlying22 g2
      obtain ⟨x8, e8, _, w8⟩ := DataW.trod_int Tryd.underlying22 g3
      obtain ⟨ys, m, _, _, _, hl2, hg2⟩ := DataW.trod_array Tryd.underlying29 g0
      match ys, hl2 with
      | [z0, z1, z2, z3, z4, z5], _ =>
        have k0 : DataW.trod enc Tryd.prog W 0 (fun _ => true) true m 3 [c0] = some z0 := by simpa [ointc] using hg2 0 (by decide)
        have k1 : DataW.trod enc Tryd.prog W 0 (fun _ => true) true m 3 [c1] = some z1 := by simpa [ointc] using hg2 1 (by decide)
        have k2 : DataW.trod enc Tryd.prog W 0 (fun _ => true) true m 3 [c2] = some z2 := by simpa [ointc] using hg2 2 (by decide)
        have k3 : DataW.trod enc Tryd.prog W 0 (fun _ => true) true m 3 [c3] = some z3 := by simpa [ointc] using hg2 3 (by decide)
        have k4 : DataW.trod enc Tryd.prog W 0 (fun _ => true) true m 3 [c4] = some z4 := by simpa [ointc] using hg2 4 (by decide)
        have k5 : DataW.trod enc Tryd.prog W 0 (fun _ => true) true m 3 [c5] = some z5 := by simpa [ointc] using hg2 5 (by decide)
        obtain ⟨x0, e0, _, w0⟩ := DataW.trod_int Tryd.underlying3 k0
        obtain ⟨x1, e1, _, w1⟩ := DataW.trod_int Tryd.underlying3 k1
        obtain ⟨x2, e2, _, w2⟩ := DataW.trod_int Tryd.underlying3 k2
        obtain ⟨x3, e3, _, w3⟩ := DataW.trod_int Tryd.underlying3 k3
        obtain ⟨x4, e4, _, w4⟩ := DataW.trod_int Tryd.underlying3 k4
        obtain ⟨x5, e5, _, w5⟩ := DataW.trod_int Tryd.underlying3 k5
        simp only [List.cons.injEq, and_true] at e0 e1 e2 e3 e4 e5 e6 e7 e8
        subst e0 e1 e2 e3 e4 e5 e6 e7 e8
        have b6 := u64_of w6
        have b7 := u64_of w7
        have b8 := u64_of w8
        refine ⟨⟨x0, x1, x2, x3, x4, x5, x6.toNat, x7.toNat, x8.toNat⟩, ⟨okN_of w0, okN_of w1, okN_of w2, okN_of w3, okN_of w4, okN_of w5, by show x6.toNat < _; omega, by show x7.toNat < _; omega, by show x8.toNat < _; omega⟩, ?_⟩
        unfold optC
        rw [show ((x6.toNat : Nat) : Int) = x6 by omega, show ((x7.toNat : Nat) : Int) = x7 by omega, show ((x8.toNat : Nat) : Int) = x8 by omega]

end Go.Proofs.YtpihfgpgdjjfhaaDoor

/-
  latchetlaw39.OptsWrites: the law's walk.
-/
namespace Go.Proofs.YtpihfgpgdjjfhaaDoor
open Go.RowKit

set_option maxRecDepth 100000 in
set_option maxHeartbeats 8000000 in
theorem optsWrites_in (a b : Opt) (w : World) (ha : a.ok) (hb : b.ok) (hv : Vars w) :
    Calls Tryd.prog 4 #[.agg (optC a), .agg (optC b)] w (PlainP (.bool true) w) := by
  have HA := Lib.hid ha
  have HB := Lib.hid hb
  have HV := Lib.hid hv
  obtain ⟨p, hp⟩ : ∃ p, p = plainO a := ⟨_, rfl⟩
  have HPk : Hid (p.ok) := Lib.hid (by rw [hp]; exact plainO_ok ha)
  have HPi : Hid (plainO p = p) := Lib.hid (by rw [hp]; exact plainO_idem a)
  have HP := Lib.hid hp.symm
  obtain ⟨T1, hT1⟩ : ∃ T, T = optB a := ⟨_, rfl⟩
  obtain ⟨T2, hT2⟩ : ∃ T, T = optB b := ⟨_, rfl⟩
  obtain ⟨T3, hT3⟩ : ∃ T, T = optB p := ⟨_, rfl⟩
  have hq1 : (T1.toList == T1.toList) = true := by simp
  have hq3 : (T3.toList == T3.toList) = true := by simp
  obtain ⟨q, hq2⟩ : ∃ q, (T1.toList == T2.toList) = q := ⟨_, rfl⟩
  have hqq : (q != q) = false := by simp
  have HWa := Lib.hid (fun u => ref39_Write a u ha)
  have HWb := Lib.hid (fun u => ref39_Write b u hb)
  have HWp := Lib.hid (fun u => ref39_Write p u HPk.out)
  have HOw := Lib.hid (fun u (hu : Vars u) => opts_Write a u ha hu.tab hu.tz)
  have HOa := Lib.hid (fun u => law39_Of a u)
  have HOb := Lib.hid (fun u => law39_Of b u)
  have HSm := Lib.hid (fun u (hu : Vars u) => opts_Same a b u ha hb hu.tab hu.tz)
  have HSp := Lib.hid (fun u (hu : Vars u) => opts_Same p p u HPk.out HPk.out hu.tab hu.tz)
  have HPa := Lib.hid (fun u => opts_Plain a u)
  have HPp := Lib.hid (fun u => opts_Plain p u)
  have HRa := Lib.hid (fun u => ref39_Plain a u)
  have HbP := Lib.hid (fun u => law39_bits p u)
  have HRd := Lib.hid (fun u (hu : Vars u) => opts_Read T1 u (by rw [hT1]; unfold optB; have := optT_len ha; show (optT a).toArray.size ≤ 2000; simp; omega) hu.tab hu.tz hu.ev hu.ml)
  have HT1 := Lib.hid (show T1.data.toList = optT a by rw [hT1]; rfl)
  rw [show (⟨(optT a).toArray⟩ : ByteArray) = T1 from hT1.symm] at HWa HOw
  rw [show (⟨(optT b).toArray⟩ : ByteArray) = T2 from hT2.symm] at HWb
  rw [show (⟨(optT p).toArray⟩ : ByteArray) = T3 from hT3.symm] at HWp
  rw [← hT1, ← hT2, hq2] at HSm
  rw [← hT3, hq3] at HSp
  rw [HPi.out] at HPp
  rw [HP.out] at HPa HRa
  have HE1 := Lib.hid hT1
  clear hT1 hT2 hT3 hp ha hb hv
  obtain ⟨wA, hwA⟩ : ∃ wA, wA = (w.alloc (.cells (optC a) 31)).alloc (.cells (optC b) 31) := ⟨_, rfl⟩
  have HKA : Hid (Kp (fun _ => False) w wA) := Lib.hid (by rw [hwA]; exact ((Kp.refl _ w).alloc _).alloc _)
  have HB1 : Hid (Blk wA w.heap.size (optC a) 31) := Lib.hid (by rw [hwA]; exact (Blk.new w _ _).alloc _)
  have HB2 : Hid (Blk wA (w.heap.size + 1) (optC b) 31) := Lib.hid (by rw [hwA]; exact (World.size_alloc w _) ▸ Blk.new (w.alloc _) _ _)
  unfold optC at hwA HB1 HB2 HWa HWb HWp HOa HOb HRa HbP
  unfold optV at HOw HOa HOb HSm HSp HPa HPp HbP
  unfold optC
  have HwA := Lib.hid hwA
  clear hwA
  go_enter Tryd.func4, Tryd.ntmps4
  go_upto_region 1 with fail
  rw [← HwA.out]
  clear HwA
  obtain ⟨ga, hga⟩ : ∃ g, g = w.heap.size := ⟨_, rfl⟩
  obtain ⟨gb, hgb⟩ : ∃ g, g = w.heap.size + 1 := ⟨_, rfl⟩
  rw [← hgb] at HB2 ⊢
  rw [← hga] at HB1 ⊢
  clear hga hgb
  obtain ⟨z0, z1, z2, z3, z4, z5, z6, z7, z8⟩ := HB1.out.cells9'
  go_wp2_with fail
  refine (HWa.out wA).mono ?_
  rintro e wB ⟨rfl, hK⟩
  have HKB := Lib.hid (HKA.out.trans hK (fun _ _ h => h))
  have HC1 := Lib.hid (HB1.out.kp hK (fun h => h))
  have HC2 := Lib.hid (HB2.out.kp hK (fun h => h))
  clear hK z0 z1 z2 z3 z4 z5 z6 z7 z8 HB1 HB2 HKA
  go_upto_region 2 with fail
  obtain ⟨F, hF1, hF2⟩ := still_class wB
  have HF1 := Lib.hid hF1
  have HF2 := Lib.hid hF2
  clear hF1 hF2
  have HVF : Hid (∀ u, Vars (F u)) := Lib.hid (fun u => HV.out.kp (HKB.out.trans (HF1.out u) (fun _ _ h => h)))
  have a0 := fun u => ((HC1.out.kp (HF1.out u) (fun h => h)).cell (i := 0) rfl)
  have a1 := fun u => ((HC1.out.kp (HF1.out u) (fun h => h)).cell (i := 1) rfl)
  have a2 := fun u => ((HC1.out.kp (HF1.out u) (fun h => h)).cell (i := 2) rfl)
  have a3 := fun u => ((HC1.out.kp (HF1.out u) (fun h => h)).cell (i := 3) rfl)
  have a4 := fun u => ((HC1.out.kp (HF1.out u) (fun h => h)).cell (i := 4) rfl)
  have a5 := fun u => ((HC1.out.kp (HF1.out u) (fun h => h)).cell (i := 5) rfl)
  have a6 := fun u => ((HC1.out.kp (HF1.out u) (fun h => h)).cell (i := 6) rfl)
  have a7 := fun u => ((HC1.out.kp (HF1.out u) (fun h => h)).cell (i := 7) rfl)
  have a8 := fun u => ((HC1.out.kp (HF1.out u) (fun h => h)).cell (i := 8) rfl)
  have b0 := fun u => ((HC2.out.kp (HF1.out u) (fun h => h)).cell (i := 0) rfl)
  have b1 := fun u => ((HC2.out.kp (HF1.out u) (fun h => h)).cell (i := 1) rfl)
  have b2 := fun u => ((HC2.out.kp (HF1.out u) (fun h => h)).cell (i := 2) rfl)
  have b3 := fun u => ((HC2.out.kp (HF1.out u) (fun h => h)).cell (i := 3) rfl)
  have b4 := fun u => ((HC2.out.kp (HF1.out u) (fun h => h)).cell (i := 4) rfl)
  have b5 := fun u => ((HC2.out.kp (HF1.out u) (fun h => h)).cell (i := 5) rfl)
  have b6 := fun u => ((HC2.out.kp (HF1.out u) (fun h => h)).cell (i := 6) rfl)
  have b7 := fun u => ((HC2.out.kp (HF1.out u) (fun h => h)).cell (i := 7) rfl)
  have b8 := fun u => ((HC2.out.kp (HF1.out u) (fun h => h)).cell (i := 8) rfl)
  refine wp_region_kept (by kernel_rfl) (by kernel_rfl) HF2.out ?_
  iterate 2 (refine wpQuiet_step (fun J hJ => ?_); go_simp; first | (refine hJ _ ?_; clear hJ J) | (apply Exists.intro; refine ⟨fun _ => ?_, hJ _ ?_⟩; (exact Calls.still_of HF1.out HF2.out (HOa.out _)); clear hJ J))
  (refine wpQuiet_step (fun J hJ => ?_); go_simp; first | (refine hJ _ ?_; clear hJ J) | (apply Exists.intro; refine ⟨fun _ => ?_, hJ _ ?_⟩; (exact Calls.still_of HF1.out HF2.out (HOw.out _ (HVF.out _))); clear hJ J))
  iterate 5 (refine wpQuiet_step (fun J hJ => ?_); go_simp; first | (refine hJ _ ?_; clear hJ J) | (apply Exists.intro; refine ⟨fun _ => ?_, hJ _ ?_⟩; (exact Calls.still_of HF1.out HF2.out (HOa.out _)); clear hJ J))
  iterate 2 (refine wpQuiet_step (fun J hJ => ?_); go_simp; first | (refine hJ _ ?_; clear hJ J) | (apply Exists.intro; refine ⟨fun _ => ?_, hJ _ ?_⟩; (exact Calls.still_of HF1.out HF2.out (HOb.out _)); clear hJ J))
  (refine wpQuiet_step (fun J hJ => ?_); go_simp; first | (refine hJ _ ?_; clear hJ J) | (apply Exists.intro; refine ⟨fun _ => ?_, hJ _ ?_⟩; (exact Calls.still_of HF1.out HF2.out (HSm.out _ (HVF.out _))); clear hJ J))
  iterate 3 (refine wpQuiet_step (fun J hJ => ?_); go_simp; first | (refine hJ _ ?_; clear hJ J) | (apply Exists.intro; refine ⟨fun _ => ?_, hJ _ ?_⟩; (exact Calls.still_of HF1.out HF2.out (HWb.out _)); clear hJ J))
  iterate 3 (refine wpQuiet_step (fun J hJ => ?_); go_simp; first | (refine hJ _ ?_; clear hJ J) | (apply Exists.intro; refine ⟨fun _ => ?_, hJ _ ?_⟩; (fail); clear hJ J))
  refine wpQuiet_nil ?_
  rintro wC ⟨u, rfl⟩
  clear a0 b0 a1 b1 a2 b2 a3 b3 a4 b4 a5 b5 a6 b6 a7 b7 a8 b8 HVF
  have HKC := Lib.hid (HKB.out.trans (HF1.out u) (fun _ _ h => h))
  have HD1 := Lib.hid (HC1.out.kp (HF1.out u) (fun h => h))
  clear HC2 HC1 HKB
  obtain ⟨wD, hwD⟩ : ∃ x, x = F u := ⟨_, rfl⟩
  rw [← hwD] at HKC HD1 ⊢
  clear hwD HF1 HF2
  obtain ⟨z0, z1, z2, z3, z4, z5, z6, z7, z8⟩ := HD1.out.cells9'
  go_wp2_with fail
  refine (HOa.out wD).mono ?_
  rintro e wE ⟨rfl, hK⟩
  have HKE := Lib.hid (HKC.out.trans hK (fun _ _ h => h))
  have HE0 := Lib.hid (HD1.out.kp hK (fun h => h))
  clear hK z0 z1 z2 z3 z4 z5 z6 z7 z8 HD1 HKC
  go_wp2_with fail
  refine (HPa.out wE).mono ?_
  rintro e wG ⟨rfl, hK⟩
  have HKG := Lib.hid (HKE.out.trans hK (fun _ _ h => h))
  have HG0 := Lib.hid (HE0.out.kp hK (fun h => h))
  clear hK HE0 HKE
  have hst : ∀ (x : Nat) u a m, (store a (.float .f64 x) m).run Tryd.prog u = stored Tryd.prog u a (.float .f64 x) m := fun x u a m => run_store _ u a _ m rfl
  go_upto_region 5 with fail
  obtain ⟨wH, hwH⟩ : ∃ x, x = wG.alloc (.cells #[.int .i64 p.e, .int .i64 p.b, .int .i64 p.p, .int .u64 (p.s : Nat), .int .i64 p.f, .int .i64 p.u, .int .i64 p.k, .float .f64 p.d, .float .f64 p.m] 25) := ⟨_, rfl⟩
  have HPb : Hid (Blk wH wG.heap.size #[.int .i64 p.e, .int .i64 p.b, .int .i64 p.p, .int .u64 (p.s : Nat), .int .i64 p.f, .int .i64 p.u, .int .i64 p.k, .float .f64 p.d, .float .f64 p.m] 25) := Lib.hid (by rw [hwH]; exact Blk.new _ _ _)
  have HKH : Hid (Kp (fun _ => False) w wH) := Lib.hid (by rw [hwH]; exact HKG.out.alloc _)
  have HH0 : Hid (Blk wH ga #[.int .i64 a.e, .int .i64 a.b, .int .i64 a.p, .int .i64 a.f, .int .i64 a.u, .int .i64 a.k, .int .u64 (a.s : Nat), .int .u64 (a.d : Nat), .int .u64 (a.m : Nat)] 31) := Lib.hid (by rw [hwH]; exact HG0.out.alloc _)
  rw [← hwH]
  clear hwH HG0 HKG
  obtain ⟨gp, hgp⟩ : ∃ g, g = wG.heap.size := ⟨_, rfl⟩
  rw [← hgp] at HPb ⊢
  clear hgp
  obtain ⟨F, hF1, hF2⟩ := still_class wH
  have HF1 := Lib.hid hF1
  have HF2 := Lib.hid hF2
  clear hF1 hF2
  have HVF : Hid (∀ u, Vars (F u)) := Lib.hid (fun u => HV.out.kp (HKH.out.trans (HF1.out u) (fun _ _ h => h)))
  have a0 := fun u => ((HPb.out.kp (HF1.out u) (fun h => h)).cell (i := 0) rfl)
  have a1 := fun u => ((HPb.out.kp (HF1.out u) (fun h => h)).cell (i := 1) rfl)
  have a2 := fun u => ((HPb.out.kp (HF1.out u) (fun h => h)).cell (i := 2) rfl)
  have a3 := fun u => ((HPb.out.kp (HF1.out u) (fun h => h)).cell (i := 3) rfl)
  have a4 := fun u => ((HPb.out.kp (HF1.out u) (fun h => h)).cell (i := 4) rfl)
  have a5 := fun u => ((HPb.out.kp (HF1.out u) (fun h => h)).cell (i := 5) rfl)
  have a6 := fun u => ((HPb.out.kp (HF1.out u) (fun h => h)).cell (i := 6) rfl)
  have a7 := fun u => ((HPb.out.kp (HF1.out u) (fun h => h)).cell (i := 7) rfl)
  have a8 := fun u => ((HPb.out.kp (HF1.out u) (fun h => h)).cell (i := 8) rfl)
  have b0 := fun u => ((HH0.out.kp (HF1.out u) (fun h => h)).cell (i := 0) rfl)
  have b1 := fun u => ((HH0.out.kp (HF1.out u) (fun h => h)).cell (i := 1) rfl)
  have b2 := fun u => ((HH0.out.kp (HF1.out u) (fun h => h)).cell (i := 2) rfl)
  have b3 := fun u => ((HH0.out.kp (HF1.out u) (fun h => h)).cell (i := 3) rfl)
  have b4 := fun u => ((HH0.out.kp (HF1.out u) (fun h => h)).cell (i := 4) rfl)
  have b5 := fun u => ((HH0.out.kp (HF1.out u) (fun h => h)).cell (i := 5) rfl)
  have b6 := fun u => ((HH0.out.kp (HF1.out u) (fun h => h)).cell (i := 6) rfl)
  have b7 := fun u => ((HH0.out.kp (HF1.out u) (fun h => h)).cell (i := 7) rfl)
  have b8 := fun u => ((HH0.out.kp (HF1.out u) (fun h => h)).cell (i := 8) rfl)
  refine wp_region_kept (by kernel_rfl) (by kernel_rfl) HF2.out ?_
  iterate 2 (refine wpQuiet_step (fun J hJ => ?_); go_simp; first | (refine hJ _ ?_; clear hJ J) | (apply Exists.intro; refine ⟨fun _ => ?_, hJ _ ?_⟩; (exact Calls.still_of HF1.out HF2.out (HbP.out _)); clear hJ J))
  (refine wpQuiet_step (fun J hJ => ?_); go_simp; first | (refine hJ _ ?_; clear hJ J) | (apply Exists.intro; refine ⟨fun _ => ?_, hJ _ ?_⟩; (exact Calls.still_of HF1.out HF2.out (HWp.out _)); clear hJ J))
  iterate 2 (refine wpQuiet_step (fun J hJ => ?_); go_simp; first | (refine hJ _ ?_; clear hJ J) | (apply Exists.intro; refine ⟨fun _ => ?_, hJ _ ?_⟩; (exact Calls.still_of HF1.out HF2.out (HRa.out _)); clear hJ J))
  (refine wpQuiet_step (fun J hJ => ?_); go_simp; first | (refine hJ _ ?_; clear hJ J) | (apply Exists.intro; refine ⟨fun _ => ?_, hJ _ ?_⟩; (exact Calls.still_of HF1.out HF2.out (HWp.out _)); clear hJ J))
  iterate 4 (refine wpQuiet_step (fun J hJ => ?_); go_simp; first | (refine hJ _ ?_; clear hJ J) | (apply Exists.intro; refine ⟨fun _ => ?_, hJ _ ?_⟩; (exact Calls.still_of HF1.out HF2.out (HPp.out _)); clear hJ J))
  iterate 2 (refine wpQuiet_step (fun J hJ => ?_); go_simp; first | (refine hJ _ ?_; clear hJ J) | (apply Exists.intro; refine ⟨fun _ => ?_, hJ _ ?_⟩; (exact Calls.still_of HF1.out HF2.out (HSp.out _ (HVF.out _))); clear hJ J))
  iterate 2 (refine wpQuiet_step (fun J hJ => ?_); go_simp; first | (refine hJ _ ?_; clear hJ J) | (apply Exists.intro; refine ⟨fun _ => ?_, hJ _ ?_⟩; (fail); clear hJ J))
  refine wpQuiet_nil ?_
  rintro wC ⟨u, rfl⟩
  clear a0 b0 a1 b1 a2 b2 a3 b3 a4 b4 a5 b5 a6 b6 a7 b7 a8 b8 HVF
  have HKC := Lib.hid (HKH.out.trans (HF1.out u) (fun _ _ h => h))
  clear HPb HKH HH0
  obtain ⟨wD, hwD⟩ : ∃ x, x = F u := ⟨_, rfl⟩
  rw [← hwD] at HKC ⊢
  clear hwD HF1 HF2
  go_wp2_with fail
  refine (HRd.out wD (HV.out.kp HKC.out)).mono ?_
  rintro e wE hP
  obtain ⟨x, n, hxok, rfl, hxv, hKB⟩ := read_said hP
  rcases hxv with ⟨rfl, hx⟩ | ⟨rfl, rfl, hx⟩
  · have HX := Lib.hid hxok
    have HKE := Lib.hid (HKC.out.trans hKB (fun _ _ h => h))
    have HT : Hid ((⟨(optT x).toArray⟩ : ByteArray) = T1) := Lib.hid (by rw [← hx])
    clear hP hxok hKB hx HKC
    unfold optV
    go_upto_region 8 with fail
    obtain ⟨wH, hwH⟩ : ∃ y, y = wE.alloc (.cells #[.int .i64 x.e, .int .i64 x.b, .int .i64 x.p, .int .u64 (x.s : Nat), .int .i64 x.f, .int .i64 x.u, .int .i64 x.k, .float .f64 x.d, .float .f64 x.m] 25) := ⟨_, rfl⟩
    have HXb : Hid (Blk wH wE.heap.size #[.int .i64 x.e, .int .i64 x.b, .int .i64 x.p, .int .u64 (x.s : Nat), .int .i64 x.f, .int .i64 x.u, .int .i64 x.k, .float .f64 x.d, .float .f64 x.m] 25) := Lib.hid (by rw [hwH]; exact Blk.new _ _ _)
    have HKH : Hid (Kp (fun _ => False) w wH) := Lib.hid (by rw [hwH]; exact HKE.out.alloc _)
    rw [← hwH]
    clear hwH HKE hst
    obtain ⟨gx, hgx⟩ : ∃ g, g = wE.heap.size := ⟨_, rfl⟩
    rw [← hgx] at HXb ⊢
    clear hgx
    obtain ⟨z0, z1, z2, z3, z4, z5, z6, z7, z8⟩ := HXb.out.cells9'
    have HbX := Lib.hid (fun u => law39_bits x u)
    have HwX := Lib.hid (fun u => ref39_Write x u HX.out)
    rw [HT.out] at HwX
    unfold optC at HbX HwX
    unfold optV at HbX
    go_wp2_with fail
    refine (HbX.out wH).mono ?_
    rintro e wI ⟨rfl, hK⟩
    have HKI := Lib.hid (HKH.out.trans hK (fun _ _ h => h))
    clear hK z0 z1 z2 z3 z4 z5 z6 z7 z8 HKH HXb
    go_wp2_with fail
    refine (HwX.out wI).mono ?_
    rintro e wJ ⟨rfl, hK⟩
    have HKJ := Lib.hid (HKI.out.trans hK (fun _ _ h => h))
    clear hK HKI
    have HLv := Lib.hid (law39_lives wJ (HV.out.kp HKJ.out).tab (HV.out.kp HKJ.out).tz (HV.out.kp HKJ.out).ev (HV.out.kp HKJ.out).ml)
    go_wp2_with fail
    refine HLv.out.mono ?_
    rintro e wK ⟨rfl, hK⟩
    have HKK := Lib.hid (HKJ.out.trans hK (fun _ _ h => h))
    clear hK HKJ HLv
    go_wp2_with fail
    go_ret
    exact ⟨rfl, HKK.out⟩
  · exact absurd HT1.out (hx a HA.out)

theorem optsWrites_walk (w : World) (v1 : Value) (h1 : OptArg w v1) (v2 : Value) (h2 : OptArg w v2) (ht : Tab w) (hx : Tz w ∧ Ev w) (hm : ML w) :
    Calls Tryd.prog 4 #[v1, v2] w fun e w' => e = .returned (.bool true) ∧ Below w.heap.size w w' := by
  obtain ⟨a, ha, rfl⟩ := h1
  obtain ⟨b, hb, rfl⟩ := h2
  exact Calls.mono (R := PlainP (.bool true) w) (optsWrites_in a b w ha hb ⟨ht, hx.1, hx.2, hm⟩) (fun e w' ⟨he, hk⟩ => ⟨he, hk.below (Nat.le_refl _) (fun _ _ h => h)⟩)

end Go.Proofs.YtpihfgpgdjjfhaaDoor

/-
  The package-level variables that the rows list: a world that holds them, and the table of powers of ten out of a row's list.
-/
namespace Go.Proofs.YtpihfgpgdjjfhaaDoor
open Go.RowKit

def synS : ByteArray := { data := #[105, 110, 118, 97, 108, 105, 100, 32, 115, 121, 110, 116, 97, 120] }
def rangeS : ByteArray := { data := #[118, 97, 108, 117, 101, 32, 111, 117, 116, 32, 111, 102, 32, 114, 97, 110, 103, 101] }
noncomputable def low : Nat := (World.holding Tryd.prog default ⟨#[], #[], []⟩).heap.size

def putCells (g : Nat) (cs : Array Value) (w : World) : World :=
  { w with heap := w.heap.modify g fun
      | .cells _ t frozen => .cells cs t frozen
      | o => o }

def tab32 : Array Value := #[0, 1, 28, 2, 29, 14, 24, 3, 30, 22, 20, 15, 25, 17, 4, 8, 31, 27, 13, 23, 21, 19, 16, 7, 26, 12, 18, 6, 11, 5, 10, 9].map (Value.int .u8)
def tab64 : Array Value := #[0, 1, 56, 2, 57, 49, 28, 3, 61, 58, 42, 50, 38, 29, 17, 4, 62, 47, 59, 36, 45, 43, 51, 22, 53, 39, 33, 30, 24, 18, 12, 5, 63, 55, 48, 27, 60, 41, 37, 16, 46, 35, 44, 21, 52, 32, 23, 11, 54, 26, 40, 15, 34, 20, 31, 10, 25, 14, 19, 9, 13, 8, 7, 6].map (Value.int .u8)
def tabPow : Array Value := (Lib.pow10Tab.map (Value.int .u64)).toArray

noncomputable def laidWorld (os : Os) : World :=
  putCells 6 tab64 (putCells 5 tab32 (putCells 3 tabPow
    (putCells 2 #[.iface 126 (.pointer (some ⟨low + 1, 0, none⟩))] (putCells 1 #[.iface 126 (.pointer (some ⟨low, 0, none⟩))]
      (World.holding Tryd.prog os ⟨#[.cells #[.string synS] 128, .cells #[.string rangeS] 128], #[], []⟩)))))

theorem gPowType : (Tryd.prog.globals[3]?).map (·.type) = some 116 := by kernel_rfl
theorem cells64 : Tryd.prog.cellsOf 22 = 1 := by kernel_rfl
theorem cellsPow : Tryd.prog.cellsOf 116 = 20 := by kernel_rfl

theorem tab_of_laid {W : World} {x y : String × DataW Unit} {r : List (String × DataW Unit)}
    (h : laidMet Tryd.prog (x :: y :: ("internal/strconv.uint64pow10", Rows.laid_internal_strconv_uint64pow10) :: r) W) : Tab W :=
  Lib.tabIs_of_head (zs := Lib.pow10Tab) gPow gPowType Tryd.underlying116 Tryd.underlying22 cells64 cellsPow (laidMet.tail (laidMet.tail h))

end Go.Proofs.YtpihfgpgdjjfhaaDoor

/-
  As Laid, with the two tables of unicode/utf8, and the library's MaxLen out of the world's shape.
-/
namespace Go.Proofs.YtpihfgpgdjjfhaaDoor
open Go.RowKit

def tabFirst : Array Value := (Go.Pinned.utf8FirstZ.map (fun (n : Nat) => Value.int .u8 (n : Int))).toArray
def tabAccept : Array Value := #[128, 191, 160, 191, 128, 159, 144, 191, 128, 143, 0, 0, 0, 0, 0, 0, 0, 0, 0, 0, 0, 0, 0, 0, 0, 0, 0, 0, 0, 0, 0, 0].map (Value.int .u8)

noncomputable def laidWorld7 (os : Os) : World := putCells 7 tabFirst (putCells 8 tabAccept (laidWorld os))

theorem maxLen_cell {W : World} (h : W.ShapedOpen Tryd.prog) : ∃ m, W.cell? ⟨4, 0, none⟩ = some (.int .i64 m) :=
  cell_of_shapedOpen_int (t := 3) (zero := #[.int .i64 0]) h (of_decide_eq_true (by kernel_rfl)) (by kernel_rfl) rfl (by kernel_rfl) (by kernel_rfl) Tryd.underlying3

end Go.Proofs.YtpihfgpgdjjfhaaDoor

/-
  What the list of Opts' rows gives of math/bits.deBruijn64tab and of strconv's two errors.
-/
namespace Go.Proofs.YtpihfgpgdjjfhaaDoor
open Go.RowKit

def zs64 : List Int := [0, 1, 56, 2, 57, 49, 28, 3, 61, 58, 42, 50, 38, 29, 17, 4, 62, 47, 59, 36, 45, 43, 51, 22, 53, 39, 33, 30, 24, 18, 12, 5, 63, 55, 48, 27, 60, 41, 37, 16, 46, 35, 44, 21, 52, 32, 23, 11, 54, 26, 40, 15, 34, 20, 31, 10, 25, 14, 19, 9, 13, 8, 7, 6]

theorem gBru : Tryd.prog.globalNamed "math/bits.deBruijn64tab" = some 6 := by kernel_rfl
theorem gBruType : (Tryd.prog.globals[6]?).map (·.type) = some 131 := by kernel_rfl
theorem cellsU8 : Tryd.prog.cellsOf 5 = 1 := by kernel_rfl
theorem cellsBru : Tryd.prog.cellsOf 131 = 64 := by kernel_rfl

theorem tz_of_laid {W : World} {x : String × DataW Unit} {r : List (String × DataW Unit)}
    (h : laidMet Tryd.prog (x :: ("math/bits.deBruijn64tab", Rows.laid_math_bits_deBruijn64tab) :: r) W) : Tz W := by
  have h1 : Lib.TabIs Tryd.prog W "math/bits.deBruijn64tab" .u8 zs64 :=
    Lib.tabIs_of_head (zs := zs64) gBru gBruType Tryd.underlying131 Tryd.underlying5 cellsU8 cellsBru (laidMet.tail h)
  exact Lib.TabIs.cell h1 gBru 15 (by decide)

theorem gSyn : Tryd.prog.globalNamed "strconv.ErrSyntax" = some 1 := by kernel_rfl
theorem gSynType : (Tryd.prog.globals[1]?).map (·.type) = some 53 := by kernel_rfl
theorem gRan : Tryd.prog.globalNamed "strconv.ErrRange" = some 2 := by kernel_rfl
theorem gRanType : (Tryd.prog.globals[2]?).map (·.type) = some 53 := by kernel_rfl

theorem iface_of_head {W : World} {n nm : String} {d : DataW Unit} {r : List (String × DataW Unit)} {g : Nat} {ms : Array (String × TypeId)}
    (h : laidMet Tryd.prog ((n, .iface nm d) :: r) W) (hg : Tryd.prog.globalNamed n = some g) (ht : (Tryd.prog.globals[g]?).map (·.type) = some 53) (hi : Tryd.prog.underlying 53 = some (.interface ms)) :
    ∃ t p, W.cell? ⟨g, 0, none⟩ = some (.iface t p) := by
  obtain ⟨ps, ⟨g0, t0, cs0, f0, p0, q0, hg0, ht0, hv0, hd0, _, e0⟩, _, hrows⟩ := h
  obtain rfl := Option.some.inj (hg.symm.trans hg0)
  obtain rfl := Option.some.inj (ht.symm.trans ht0)
  obtain ⟨f1, u, v, hcs, _, _⟩ := iface_of_trod hi hd0
  refine ⟨u, v, (World.var?_cell hg0 hv0 0).trans ?_⟩
  rw [← Array.getElem?_toList, hcs]
  rfl

theorem ev_of_laid {W : World} {a b c d : String × DataW Unit} {r : List (String × DataW Unit)}
    (h : laidMet Tryd.prog (a :: b :: c :: d :: ("strconv.ErrRange", Rows.laid_strconv_ErrRange) :: ("strconv.ErrSyntax", Rows.laid_strconv_ErrSyntax) :: r) W) : Ev W := by
  have h1 := laidMet.tail (laidMet.tail (laidMet.tail (laidMet.tail h)))
  exact ⟨iface_of_head (laidMet.tail h1) gSyn gSynType Tryd.underlying53, iface_of_head h1 gRan gRanType Tryd.underlying53⟩

end Go.Proofs.YtpihfgpgdjjfhaaDoor
