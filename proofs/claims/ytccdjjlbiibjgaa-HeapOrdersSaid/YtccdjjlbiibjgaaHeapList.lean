/-
  heap.List.
-/
import Derived.Test.YtccdjjlbiibjgaaHeapPop
import Derived.Test.YtccdjjlbiibjgaaShelf
import Derived.Test.YtccdjjlbiibjgaaSortBridge
import Derived.Shelf.SlSortCmp.Insertion
import Derived.Sort.Statements
namespace Go.Proofs.Ytccdjjlbiibjgaa
open Go.RowKit

theorem Hp.kp0 {w w' : World} {base h n m : Nat} {vs vt va : Value} {S T : Nat → Nat} {Q : Nat → Int} (H : Hp w base h vs vt va n m S T Q) (k : Kp (fun _ => False) w w') : Hp w' base h vs vt va n m S T Q :=
  H.kp k (fun _ _ _ h => h)

def cfI (S : Nat → Nat) (x y : Nat) : Int := if aheadB S x y = true then -1 else 1

def cfH (S : Nat → Nat) (n : Nat) (x y : Fin n) : Int := cfI S x.val y.val

theorem grow_nil (u : World) : Sort.grow u #[] = u := by cases u; simp [Sort.grow]

theorem lt_cfH (S : Nat → Nat) (n : Nat) (x y : Fin n) : ltOf (cfH S n) x y = aheadB S x.val y.val := by
  unfold ltOf cfH cfI
  by_cases h : aheadB S x.val y.val = true
  · simp [h]
  · have h' : aheadB S x.val y.val = false := by simpa using h
    simp [h']

theorem swo_cfH (S : Nat → Nat) (n : Nat) : Sort.SWO (ltOf (cfH S n)) where
  irrefl x := by rw [lt_cfH]; have := (ah_ord S).irr (a := x.val); simpa [ah] using this
  trans x y z h1 h2 := by
    rw [lt_cfH] at *
    exact Ord.trans (ah_ord S) h1 h2
  ntrans x y z h1 h2 := by
    rw [lt_cfH] at *
    have := (ah_ord S).neg (a := z.val) (b := y.val) (c := x.val) (by simpa [ah] using h2) (by simpa [ah] using h1)
    simpa [ah] using this

theorem tot_cfH (S : Nat → Nat) (n : Nat) (x y : Fin n) (h1 : ltOf (cfH S n) x y = false) (h2 : ltOf (cfH S n) y x = false) : x = y := by
  rw [lt_cfH] at h1 h2
  apply Fin.ext
  apply Classical.byContradiction
  intro hne
  have := (ah_ord S).tot (a := x.val) (b := y.val) hne (by simp [ah, h1])
  rw [ah, h2] at this
  cases this

def finV {n : Nat} (i : Fin n) : Value := .int .i64 i.val
def natV (i : Nat) : Value := .int .i64 i
theorem finV_map {n : Nat} (l : List (Fin n)) : l.map finV = (l.map Fin.val).map natV := by rw [List.map_map]; rfl

set_option maxHeartbeats 400000 in
theorem list_cmp {w : World} {base h n m B : Nat} {vs vt va : Value} {S T : Nat → Nat} {Q : Nat → Int} (H : Hp w base h vs vt va n m S T Q) (hn : n ≤ 1048576) (hB : w.cell? ⟨B, 0, none⟩ = some (.pointer (some ⟨h, 0, none⟩))) {x y : Nat} (hx : x < n) (hy : y < n) :
    Calls Try.prog 26 #[.int .i64 x, .int .i64 y, .pointer (some ⟨B, 0, none⟩)] w fun e w' =>
      e = .returned (.int .i64 (cfI S x y)) ∧ ∃ q, w' = w.drewN q := by
  have HH := Lib.hid H; clear H
  by_cases ha : aheadB S x y = true
  · have HF := Lib.hid (show cfI S x y = -1 by simp [cfI, ha])
    go_enter Try.func26, Try.ntmps26
    go_wp2_with fail
    refine (heap_ahead HH.out hn hx hy).mono ?_
    rintro e w' ⟨rfl, q, rfl⟩
    rw [ha]
    go_wp2_with fail
    go_ret
    rw [HF.out]
    exact ⟨rfl, q, rfl⟩
  · have ha' : aheadB S x y = false := by simpa using ha
    have HF := Lib.hid (show cfI S x y = 1 by simp [cfI, ha'])
    clear ha
    go_enter Try.func26, Try.ntmps26
    go_wp2_with fail
    refine (heap_ahead HH.out hn hx hy).mono ?_
    rintro e w' ⟨rfl, q, rfl⟩
    rw [ha']
    go_wp2_with fail
    go_ret
    rw [HF.out]
    exact ⟨rfl, q, rfl⟩

/-- the tree as numbers below n -/
def treeF (T : Nat → Nat) (n m : Nat) (h : ∀ i, i < m → T i < n) : List (Fin n) := (List.range m).attach.map (fun x => ⟨T x.1, h x.1 (List.mem_range.1 x.2)⟩)

theorem treeF_val (T : Nat → Nat) (n m : Nat) (h : ∀ i, i < m → T i < n) : (treeF T n m h).map Fin.val = (List.range m).map T := by
  unfold treeF
  rw [List.map_map]
  have : (List.range m).attach.map (T ∘ Subtype.val) = (List.range m).map T := by
    rw [← List.map_map, List.attach_map_subtype_val]
  exact this

/-- slices.SortFunc by the closure -/
theorem list_Sort {w0 w : World} {base h n m B g k cap : Nat} {vs vt va : Value} {S T : Nat → Nat} {Q : Nat → Int} (H : Hp w0 base h vs vt va n m S T Q) (hT : ∀ i, i < m → T i < n) (hn : n ≤ 1048576) (hm : m ≤ 1048576) (hn0 : 0 < n) (hK : Kp (fun _ => False) w0 w) (hB : w.cell? ⟨B, 0, none⟩ = some (.pointer (some ⟨h, 0, none⟩)))
    (hO : Own w (w0.heap.size + 1) 3 (.slice (some ⟨g, 0, none⟩) k cap) (nts T m)) (hgB : g ≠ B) :
    Calls Try.prog 25 #[.slice (some ⟨g, 0, none⟩) k cap, .func (.func 26) #[] #[.pointer (some ⟨B, 0, none⟩)]] w fun e w' =>
      e = .returned (.tuple #[]) ∧ ∃ l : List Nat, l.Perm ((List.range m).map T) ∧ l.Pairwise (fun a b => ¬ ah S b a) ∧ Own w' (w0.heap.size + 1) 3 (.slice (some ⟨g, 0, none⟩) k cap) (l.map natV) ∧ Kp (· = g) w w' := by
  obtain ⟨n', rfl⟩ : ∃ n', n = n' + 1 := ⟨n - 1, by omega⟩
  have eg : ∀ args w, (callFunc 26 args).run Try.prog w = .ok (.enter 26 args) w := enters_of Try.func26 (by kernel_rfl) rfl
  have hO' : Own w (w0.heap.size + 1) 3 (.slice (some ⟨g, 0, none⟩) k cap) ((treeF T (n' + 1) m hT).toArray.toList.map finV) := by
    rw [List.toList_toArray, finV_map, treeF_val]
    have e : ((List.range m).map T).map natV = nts T m := by rw [List.map_map]; rfl
    rw [e]; exact hO
  have hl : (treeF T (n' + 1) m hT).length = m := by
    have := congrArg List.length (treeF_val T (n' + 1) m hT)
    simpa using this
  have hk : k = (treeF T (n' + 1) m hT).toArray.size := by
    obtain ⟨a, c, e, _⟩ := hO'.form
    simp only [Value.slice.injEq] at e
    simpa using e.2.1
  have hsz : (treeF T (n' + 1) m hT).toArray.size < 4611686018427387904 := by
    simp only [List.size_toArray, hl]; omega
  have hglt : g < w.heap.size := (hO.lt g rfl).2
  have hg1 : w0.heap.size + 1 ≤ g := (hO.lt g rfl).1
  have hcmp : CmpLays1 Try.prog 26 #[.pointer (some ⟨B, 0, none⟩)] (finV (n := n' + 1)) (cfH S (n' + 1)) g 0 (treeF T (n' + 1) m hT).toArray.size w := by
    intro q os dk hs x y
    have hK2 := (own_sorted (m := q) (os := os) hO' hs).2
    have hB2 : (sortWorld finV w g 0 q dk os).cell? ⟨B, 0, none⟩ = some (.pointer (some ⟨h, 0, none⟩)) := by
      have hBl : B < w.heap.size := World.block_lt_of_cell? w _ hB
      exact (World.cell?_of_block (w := w) (a := ⟨B, 0, none⟩) (hK2.block B hBl (fun e => hgB e.symm))).trans hB
    have hcm := list_cmp (H.kp0 (hK.trans hK2 (fun i hi e => by omega))) hn hB2 x.isLt y.isLt
    refine hcm.mono ?_
    rintro e w' ⟨rfl, q2, rfl⟩
    exact ⟨rfl, q2, #[], (grow_nil _).symm⟩
  have hcon := Try.slices_SortFunc_total finV (fun _ => rfl) (cfH S (n' + 1)) (swo_cfH _ _) 26 #[.pointer (some ⟨B, 0, none⟩)] g 0 cap (treeF T (n' + 1) m hT).toArray w eg hcmp (own_holds hO') hglt hsz (fun x y h1 h2 => tot_cfH _ _ x y h1 h2)
  rw [← hk] at hcon
  refine hcon.mono ?_
  rintro e w' ⟨rfl, q, os, rfl⟩
  obtain ⟨r1, r2⟩ := own_sorted (d' := ((treeF T (n' + 1) m hT).toArray.toList.mergeSort fun x y => !(ltOf (cfH S (n' + 1))) y x).toArray) (m := q) (os := os) hO' (by simp)
  refine ⟨rfl, ((treeF T (n' + 1) m hT).mergeSort fun x y => !(ltOf (cfH S (n' + 1))) y x).map Fin.val, ?_, ?_, ?_, r2⟩
  · rw [← treeF_val T (n' + 1) m hT]
    exact (List.mergeSort_perm _ _).map _
  · rw [List.pairwise_map]
    have hs : ((treeF T (n' + 1) m hT).mergeSort fun x y => !(ltOf (cfH S (n' + 1))) y x).Pairwise (fun a b => (!(ltOf (cfH S (n' + 1)) b a)) = true) := by
      refine List.pairwise_mergeSort (le := fun x y => !(ltOf (cfH S (n' + 1)) y x)) ?_ ?_ _
      · intro a b c h1 h2
        simp only [Bool.not_eq_true'] at *
        exact (swo_cfH S (n' + 1)).ntrans c b a h2 h1
      · intro a b
        simp only [Bool.or_eq_true, Bool.not_eq_true']
        rw [lt_cfH, lt_cfH]
        by_cases h1 : aheadB S b.val a.val = true
        · right
          have := (ah_ord S).asym (a := b.val) (b := a.val) h1
          simpa [ah] using this
        · left; simpa using h1
    refine hs.imp ?_
    intro a b hab
    simp only [Bool.not_eq_true'] at hab
    rw [lt_cfH] at hab
    simp [ah, hab]
  · rw [List.toList_toArray, List.toList_toArray, finV_map] at r1
    exact r1

/-- what List leaves -/
def ListPost (m : Nat) (S T : Nat → Nat) (w : World) (e : Ending) (w' : World) : Prop :=
  ∃ (v : Value) (l : List Nat), e = .returned v ∧ l.Perm ((List.range m).map T) ∧ l.Pairwise (fun a b => ¬ ah S b a) ∧ Own w' w.heap.size 3 v (l.map natV) ∧ Kp (fun _ => False) w w'

set_option maxHeartbeats 1000000 in
theorem heap_List {w : World} {base h n m : Nat} {S T : Nat → Nat} {Q : Nat → Int} (HO : HOk w base h n m S T Q) (hn : n ≤ 1048576) (hm : m ≤ 1048576) (hm0 : 0 < m) :
    Calls Try.prog 15 #[.pointer (some ⟨h, 0, none⟩)] w (ListPost m S T w) := by
  obtain ⟨⟨vs, vt, va, H⟩, hI, hok⟩ := HO
  clear hok
  obtain ⟨gt, ct, hvt, hgt, hgl⟩ := H.t.leads (by rw [nts_length]; omega)
  rw [nts_length] at hvt
  subst hvt
  have hT : ∀ i, i < m → T i < n := fun i hi => (hI.here i hi).1
  have hn0 : 0 < n := by have := hT 0 hm0; omega
  have HT := Lib.hid hT; clear hT hI
  have hK0 : Kp (fun _ => False) w (w.alloc (.cells #[.pointer (some ⟨h, 0, none⟩)] 23)) := (Kp.refl _ w).alloc _
  have H1 := H.kp0 hK0
  have c1 : (w.alloc (.cells #[.pointer (some ⟨h, 0, none⟩)] 23)).cell? ⟨h, 1, none⟩ = some (.slice (some ⟨gt, 0, none⟩) m ct) := H1.blk.cell (i := 1) rfl
  have HC := Lib.hid (Try.slices_Clone_int gt 0 m ct ((List.range m).map (fun i => (T i : Int))) (w.alloc (.cells #[.pointer (some ⟨h, 0, none⟩)] 23)) (by simp) (by omega) (fun j hj => by
    have hj' : j < m := by simpa using hj
    rw [Nat.zero_add, H1.t.cell (nts_at hj')]
    simp [List.getD, hj']))
  have HH := Lib.hid H; clear H H1
  have HK0 := Lib.hid hK0; clear hK0
  have hmf : ∀ (fn : Fn) (first cap : Array Value) (w : World), (Instr.makeFunc fn first cap).run Try.prog w = .ok (.func fn first cap) w := fun _ _ _ _ => rfl
  go_enter Try.func15, Try.ntmps15
  go_wp2_with fail
  refine HC.out.mono ?_
  rintro e w2 ⟨v', rfl, hO2, hne, hB2⟩
  have hO3 : Own w2 (w.heap.size + 1) 3 v' (nts T m) := by
    have e : ((List.range m).map (fun i => (T i : Int))).take m = (List.range m).map (fun i => (T i : Int)) := List.take_of_length_le (by simp)
    rw [e, List.map_map] at hO2
    unfold Own
    rw [nts_length]
    have h2 := hO2
    simp only [World.size_alloc] at h2
    exact h2
  obtain ⟨g, cap, hv', hg1, hg2⟩ := hO3.leads (by rw [nts_length]; omega)
  rw [nts_length] at hv'
  subst hv'
  have hK2 : Kp (fun _ => False) w w2 := HK0.out.trans (Kp.of_below hB2 _) (fun _ _ h => h)
  have hcB : w2.cell? ⟨w.heap.size, 0, none⟩ = some (.pointer (some ⟨h, 0, none⟩)) := by
    have := (Blk.new w #[.pointer (some ⟨h, 0, none⟩)] 23).kp (Kp.of_below hB2 (fun _ => False)) (fun h => h)
    exact this.cell (i := 0) rfl
  have HS := Lib.hid (list_Sort HH.out HT.out hn hm hn0 hK2 hcB hO3 (by omega))
  clear hO2 hne hB2 hO3
  go_wp2_with fail
  refine HS.out.mono ?_
  rintro e w3 ⟨rfl, l, hl1, hl2, hO4, hK4⟩
  have hend : ListPost m S T w (.returned (.slice (some ⟨g, 0, none⟩) m cap)) w3 := ⟨_, l, rfl, hl1, hl2, hO4.mono (by omega), hK2.trans hK4 (fun i hi e => by omega)⟩
  have HEnd := Lib.hid hend; clear hend hl1 hl2 hO4 hK4
  go_wp2_with fail
  go_ret
  exact HEnd.out

end Go.Proofs.Ytccdjjlbiibjgaa
