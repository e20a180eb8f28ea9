/- slices.SortFunc at commands in canonical order: the one sorted list. -/
import Derived.Test.YthcfjiapmigjiaaDoorCanO
import Derived.Test.YthcfjiapmigjiaaDoorSortK
import Derived.Test.YthcfjiapmigjiaaDoorOut
namespace Go.Proofs.YthcfjiapmigjiaaDoor
open Go.RowKit Go.Shelf
set_option linter.unusedVariables false
set_option linter.unusedSimpArgs false
set_option maxRecDepth 20000

theorem swoC : Go.Sort.SWO (ltOf cfC) where
  irrefl x := (cfC_lt x x).trans (befC_irr x)
  trans x y z h k := (cfC_lt x z).trans (befC_trans x y z ((cfC_lt x y).symm.trans h) ((cfC_lt y z).symm.trans k))
  ntrans x y z h k := (cfC_lt x z).trans (befC_ntrans x y z ((cfC_lt x y).symm.trans h) ((cfC_lt y z).symm.trans k))
theorem cmpLaysC (b o size : Nat) (w : World) : CmpLays Tryd.prog 31 #[] encK 5 cfC b o size w := by
  intro m os dk _ x y
  refine (implOrder_any x.p x.x x.y x.z x.u y.p y.x y.y y.z y.u _).mono ?_
  rintro e w' ⟨rfl, hg⟩
  exact ⟨ret_int (by rw [toList_is (s := x.p) rfl, toList_is (s := y.p) rfl]; rfl), hg⟩
theorem flat_toList (l : List Cmd) : (Go.Sort.flatK encK 5 l.toArray).toList = l.flatMap encK := by
  apply List.ext_getElem?
  intro j
  by_cases hj : j < l.length * 5
  · have h1 : j / 5 < l.length := by omega
    have h2 := flat_get encK_len l (j / 5) (j % 5) h1 (by omega)
    rw [show j / 5 * 5 + j % 5 = j by omega] at h2
    rw [h2, Array.getElem?_toList]
    have hs : j < (Go.Sort.flatK encK 5 l.toArray).size := by simpa using hj
    have h3 := Go.Sort.get_flatK encK 5 l.toArray j (by simpa using hj)
    rw [getElem!_pos _ j hs] at h3
    rw [Array.getElem?_eq_getElem hs, h3]
    have h4 : l.toArray[j / 5]! = l[j / 5] := by rw [getElem!_pos l.toArray (j / 5) (by simpa using h1)]; simp
    rw [h4, getElem!_pos (encK l[j / 5]) (j % 5) (by rw [encK_len]; omega), List.getElem?_eq_getElem (by rw [encK_len]; omega)]
  · rw [List.getElem?_eq_none (by simp; omega), List.getElem?_eq_none (by rw [flat_len encK_len]; omega)]
theorem holdsC {w : World} {B g n c : Nat} {e : TypeId} {l : List Cmd} (hl : l.length = n) (ho : w.ownsRow B e 5 (.slice (some ⟨g, 0, none⟩) n c) n (l.flatMap encK)) : Go.Sort.HoldsK encK 5 w g 0 l.toArray := by
  intro j hj
  have hj' : j < l.length * 5 := by simpa using hj
  refine ⟨?_, by rw [Nat.zero_add]; exact ho.frozenAt j⟩
  rw [Nat.zero_add, ho.cellAt j (by omega), ← flat_toList, Array.getElem?_toList, Array.getElem?_eq_getElem hj, getElem!_pos _ j hj]
  rfl
theorem heapC {w : World} {g n : Nat} {os : Array Obj} {cur : Array Value} {e : TypeId} {fr : Nat × Nat} (F : Array Value) (hb : w.heap[g]? = some (.cells cur e fr)) :
    (Go.Sort.grow (Go.Sort.putRow id (Go.Sort.ahead w n) g 0 F) os).heap[g]? = some (.cells (Go.Sort.putCells id 0 F cur) e fr) := by
  have hg : g < w.heap.size := (Array.getElem?_eq_some_iff.1 hb).1
  rw [Go.Sort.heap_grow_old _ _ (by simpa using hg)]
  simp [Go.Sort.putRow, Go.Sort.mapBlock, Go.Sort.ahead, Array.getElem?_modify, hb, Go.Sort.onCells]
theorem belowC {w : World} {B g n : Nat} {os : Array Obj} (F : Array Value) (hg : B ≤ g) (hB : B ≤ w.heap.size) : Below B w (Go.Sort.grow (Go.Sort.putRow id (Go.Sort.ahead w n) g 0 F) os) := by
  refine ⟨rfl, rfl, rfl, by simp, fun k hk => ?_⟩
  rw [Go.Sort.heap_grow_old _ _ (by simp; omega)]
  have : g ≠ k := by omega
  simp [Go.Sort.putRow, Go.Sort.mapBlock, Go.Sort.ahead, Array.getElem?_modify, this]
theorem takeC (cur F : Array Value) (h : F.size ≤ cur.size) : (Go.Sort.putCells id 0 F cur).toList.take F.size = F.toList := by
  apply List.ext_getElem?
  intro j
  by_cases hj : j < F.size
  · rw [List.getElem?_take_of_lt hj, Array.getElem?_toList]
    simp [Go.Sort.putCells, hj, show j < cur.size by omega]
  · rw [List.getElem?_take_eq_none (by omega), List.getElem?_eq_none (by simp; omega)]
theorem ownC {w : World} {B g c n m : Nat} {e : TypeId} {os : Array Obj} {l d : List Cmd} (hl : l.length = n) (hd : d.length = n) (ho : w.ownsRow B e 5 (.slice (some ⟨g, 0, none⟩) n c) n (l.flatMap encK)) :
    (sortWorldK encK 5 w g 0 m d.toArray os).ownsRow B e 5 (.slice (some ⟨g, 0, none⟩) n c) n (d.flatMap encK) := by
  rcases ho.2 with ⟨h0, _⟩ | ⟨g', cap', cur, hv, hg, hb, h1, h2, h3, h4⟩
  · cases h0
  cases hv
  have hF : (Go.Sort.flatK encK 5 d.toArray).size = n * 5 := by simp [hd]
  refine ⟨by rw [flat_len encK_len, hd], .inr ⟨g, c, _, rfl, hg, heapC _ hb, h1, h2, by simp [Go.Sort.putCells, h3], ?_⟩⟩
  rw [← flat_toList d, ← hF]
  exact takeC cur _ (by rw [hF, h3]; exact Nat.mul_le_mul_right 5 h1)
/-- The row holds the one list in canonical order. -/
def SortsTo (A : Option Addr) (n c B : Nat) (l : List Cmd) (w : World) (e : Ending) (w' : World) : Prop :=
  e = .returned (.tuple #[]) ∧ w'.ownsRow B 52 5 (.slice A n c) n ((sortR l).flatMap encK) ∧ Below B w w'
set_option maxHeartbeats 1000000 in
theorem sortFunc_any (A : Option Addr) (n c B : Nat) (l : List Cmd) (w : World) (hn : n ≤ 4194304) (hB : B ≤ w.heap.size) (hl : l.length = n) (ho : w.ownsRow B 52 5 (.slice A n c) n (l.flatMap encK)) (hnd : (l.map Cmd.s).Nodup) :
    Calls Tryd.prog 30 #[.slice A n c, .func (.func 31) #[] #[]] w (SortsTo A n c B l w) := by
  rcases ho.2 with ⟨h0, hn0⟩ | ⟨g, cap, cur, hv, hg, hb, h1, h2, h3, h4⟩
  · cases h0
    have hle : l = [] := List.eq_nil_of_length_eq_zero (by omega)
    subst hle
    refine (AnyF.slices_SortFunc_none Tryd.sortK none 0 (.func (.func 31) #[] #[]) w).mono ?_
    rintro e w' ⟨rfl, rfl⟩
    exact ⟨rfl, ho, Below.refl _ _⟩
  · cases hv
    have hs : l.toArray.size = n := by simpa using hl
    have hgl : g < w.heap.size := (Array.getElem?_eq_some_iff.1 hb).1
    have hcon := AnyQ.slices_SortFunc Tryd.sortK 5 Tryd.isAgg52 Tryd.sizeOf52 encK encK_len encK_one cfC swoC 31 #[] g 0 c l.toArray w (enters_of Tryd.func31 (by kernel_rfl) rfl) (cmpLaysC g 0 _ w) (holdsC hl ho) hgl (by rw [hs]; omega)
    rw [hs] at hcon
    refine hcon.mono ?_
    rintro e w' ⟨rfl, d', m, os, hp, hso, rfl⟩
    have hd' : d'.size = n := hp.1.trans hs
    have hperm : d'.toList.Perm l := by
      have := hp.2.2
      rw [show d'.extract 0 n = d' by rw [← hd']; simp, show l.toArray.extract 0 n = l.toArray by rw [← hs]; simp] at this
      simpa using this
    have hsort : SortedC d'.toList := by
      unfold SortedC
      rw [List.pairwise_iff_getElem]
      intro i j hi hj hij
      have hi' : i < d'.size := by simpa using hi
      have hj' : j < d'.size := by simpa using hj
      have := hso i j (Nat.zero_le _) hij (by omega)
      rw [getElem!_pos d' i hi', getElem!_pos d' j hj'] at this
      rw [Array.getElem_toList, Array.getElem_toList]
      exact (cfC_lt _ _).symm.trans this
    have he := sort_one hnd hperm hsort
    refine ⟨rfl, ?_, belowC _ hg hB⟩
    have := ownC (m := m) (os := os) hl (d := d'.toList) (by simpa using hd') ho
    rw [he] at this
    have h5 : (sortR l).toArray = d' := by rw [← he]
    rw [h5] at this
    exact this
end Go.Proofs.YthcfjiapmigjiaaDoor
