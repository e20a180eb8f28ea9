/- The arguments that came in, opened: a slice of elements of k cells reads as a list. Over any program. -/
import Derived.Test.YthcfjiapmigjiaaDoorBase
import Derived.ProofKit
import Derived.OpenShut
import Derived.ShutString
import Derived.ChangeOld
import Derived.Below
import Derived.Lib.SmallJoins
namespace Go.Proofs.YthcfjiapmigjiaaDoor
open Go.ChangeShapes Go.WideShapes Go.ChangeAt Go.RowKit

def encU (z : Int) : List Value := [.int .u8 z]

section
variable {H : Type} {en : TypeId × Value → H} {P : Program} {w : World} {base : Nat} {spare : Nat → Bool} {held : Bool}

theorem cells_get {a : Addr} {k : Nat} {cs : List Value} (h : w.cells? base a k = some cs) : cs.length = k ∧ ∀ r, r < k → w.cell? (a.add r) = cs[r]? := by
  unfold World.cells? at h
  split at h
  · refine ⟨by simpa using mapM_some_length h, fun r hr => ?_⟩
    exact mapM_some_get h r r (by simp [hr])
  · cases h

theorem open_list {t e : TypeId} {fuel : Nat} {A : Option Addr} {n c : Nat} {x : DataW H × List MemPlace} {k : Nat} (hk : 0 < k) (ht : P.underlying t = some (.slice e)) (hc : P.cellsOf e = k) {α : Type} (enc : α → List Value) (Q : α → Prop)
    (each : ∀ m cs y, DataW.trod en P w base spare held m e cs = some y → ∃ u : α, cs = enc u ∧ Q u) (h : DataW.trod en P w base spare held fuel t [.slice A n c] = some x) :
    ∃ l : List α, l.length = n ∧ n ≤ c ∧ c ≤ maxLen ∧ At enc k w A l ∧ ∀ u ∈ l, Q u := by
  rcases DataW.trod_slice ht h with ⟨h0, _⟩ | ⟨a, len, cap, elems, rest, m, _, hv, _, _, hl, hm, hlen, hel, _, _⟩
  · injection h0 with h0 _
    injection h0 with h1 h2 h3
    subst h1; subst h2; subst h3
    exact ⟨[], rfl, Nat.le_refl _, Nat.zero_le _, At.nil _, fun u hu => by cases hu⟩
  · injection hv with hv _
    injection hv with h1 h2 h3
    subst h1; subst h2; subst h3
    have one : ∀ i : Fin n, ∃ u : α, Q u ∧ (enc u).length = k ∧ ∀ r, r < k → w.cell? ((a.add (i.1 * k)).add r) = (enc u)[r]? := by
      intro i
      have h1 := hel i.1 i.2
      rw [hc, List.getElem?_eq_getElem (by rw [hlen]; exact i.2), Option.bind_eq_some_iff] at h1
      obtain ⟨cs, hcs, htr⟩ := h1
      obtain ⟨u, rfl, hq⟩ := each _ _ _ htr
      obtain ⟨h2, h3⟩ := cells_get hcs
      exact ⟨u, hq, h2, h3⟩
    refine ⟨List.ofFn fun i => Classical.choose (one i), by simp, hl, hm, ?_, ?_⟩
    · have cell0 : ∀ i : Fin n, ∀ r, r < k → w.cell? ((a.add (i.1 * k)).add r) = (enc (Classical.choose (one i)))[r]? := fun i => (Classical.choose_spec (one i)).2.2
      have len0 : ∀ i : Fin n, (enc (Classical.choose (one i))).length = k := fun i => (Classical.choose_spec (one i)).2.1
      have spot0 : 0 < n → a = ⟨a.block, a.off, none⟩ ∧ a.block < w.heap.size := by
        intro hn
        have h1 := cell0 ⟨0, hn⟩ 0 hk
        rw [List.getElem?_eq_getElem (by rw [len0]; exact hk)] at h1
        have h2 : (a.add (0 * k)).add 0 = a := by simp [Addr.add]
        rw [h2] at h1
        unfold World.cell? at h1
        split at h1
        · rename_i hb
          refine ⟨?_, ?_⟩
          · cases a with | mk b o s => cases s <;> simp_all
          · rcases Nat.lt_or_ge a.block w.heap.size with hlt | hge
            · exact hlt
            · rw [Array.getElem?_eq_none hge] at hb; cases hb
        · cases h1
      have hA : 0 < n → some a = some ⟨blk (some a), off (some a), none⟩ := fun hn => by
        have := (spot0 hn).1
        show some a = some ⟨a.block, a.off, none⟩
        rw [← this]
      refine ⟨fun hl => hA (by simpa using hl), fun hl => (spot0 (by simpa using hl)).2, ?_⟩
      intro j hj r u hu
      have hjn : j < n := by simpa using hj
      rw [List.getElem_ofFn] at hu
      have hr : r < k := by
        have := (List.getElem?_eq_some_iff.1 hu).1
        rwa [len0 ⟨j, hjn⟩] at this
      have h1 := cell0 ⟨j, hjn⟩ r hr
      rw [hu] at h1
      have hs := (spot0 (by omega)).1
      have e1 : (a.add (j * k)).add r = ⟨blk (some a), off (some a) + j * k + r, none⟩ := by
        rw [hs]
        show _ = (⟨a.block, a.off + j * k + r, none⟩ : Addr)
        unfold Addr.add
        by_cases h1 : j * k = 0 <;> by_cases h2 : r = 0 <;> simp [h1, h2]
      rwa [e1] at h1
    · intro u hu
      obtain ⟨i, rfl⟩ := (List.mem_ofFn ..).1 hu
      exact (Classical.choose_spec (one i)).1

theorem open_ints' {t e : TypeId} {fuel : Nat} {A : Option Addr} {n c : Nat} {x : DataW H × List MemPlace} (ht : P.underlying t = some (.slice e)) (he : P.underlying e = some (.int .i64)) (hc : P.cellsOf e = 1)
    (h : DataW.trod en P w base spare held fuel t [.slice A n c] = some x) : ∃ l : List Int, l.length = n ∧ n ≤ c ∧ c ≤ maxLen ∧ At encI 1 w A l ∧ ∀ u ∈ l, (Lit.int .i64 u).wf = true :=
  open_list (by omega) ht hc encI _ (fun m cs y hy => by
    obtain ⟨z, rfl, _, hw⟩ := DataW.trod_int he hy
    exact ⟨z, rfl, hw⟩) h
theorem open_bytes {t e : TypeId} {fuel : Nat} {A : Option Addr} {n c : Nat} {x : DataW H × List MemPlace} (ht : P.underlying t = some (.slice e)) (he : P.underlying e = some (.int .u8)) (hc : P.cellsOf e = 1)
    (h : DataW.trod en P w base spare held fuel t [.slice A n c] = some x) : ∃ l : List Int, l.length = n ∧ n ≤ c ∧ c ≤ maxLen ∧ At encU 1 w A l ∧ ∀ u ∈ l, (Lit.int .u8 u).wf = true :=
  open_list (by omega) ht hc encU _ (fun m cs y hy => by
    obtain ⟨z, rfl, _, hw⟩ := DataW.trod_int he hy
    exact ⟨z, rfl, hw⟩) h

def RowI.ok (w : World) (r : RowI) : Prop := At encI 1 w r.A r.zs ∧ r.zs.length ≤ r.c ∧ r.c ≤ maxLen ∧ ∀ u ∈ r.zs, (Lit.int .i64 u).wf = true

theorem open_rows {t e e1 : TypeId} {fuel : Nat} {A : Option Addr} {n c : Nat} {x : DataW H × List MemPlace} (ht : P.underlying t = some (.slice e)) (hc : P.cellsOf e = 1) (he : P.underlying e = some (.slice e1)) (he1 : P.underlying e1 = some (.int .i64)) (hc1 : P.cellsOf e1 = 1)
    (h : DataW.trod en P w base spare held fuel t [.slice A n c] = some x) : ∃ l : List RowI, l.length = n ∧ n ≤ c ∧ c ≤ maxLen ∧ At encR 1 w A l ∧ ∀ r ∈ l, r.ok w :=
  open_list (by omega) ht hc encR _ (fun m cs y hy => by
    have form : ∃ A n c, cs = [.slice A n c] := by
      rcases DataW.trod_slice he hy with ⟨h0, _⟩ | ⟨a, len, cap, _, _, _, _, hv, _⟩
      · exact ⟨_, _, _, h0⟩
      · exact ⟨_, _, _, hv⟩
    obtain ⟨A, n, c, rfl⟩ := form
    obtain ⟨l, rfl, h1, h2, h3, h4⟩ := open_ints' he he1 hc1 hy
    exact ⟨⟨A, c, l⟩, rfl, h3, h1, h2, h4⟩) h
theorem open_content {r : Reach} {b0 : Nat} {t : TypeId} {f0 f1 : Field} {v : Value} {d : DataW H} {p : List MemPlace} (hs : P.underlying t = some (.struct #[f0, f1])) (hone : Go.Deep.oneCellFields P #[f0, f1] = true) (hC : P.cellsOf t = 2) (h0 : P.underlying f0.type = some (.int .i64)) (h1 : P.underlying f1.type = some (.int .i64))
    (hv : Value.okWide P w r b0 t v) (h : DataW.Trod en P w base spare held t v d p) : ∃ x y : Int, v = .agg #[.int .i64 x, .int .i64 y] ∧ (Lit.int .i64 x).wf = true ∧ (Lit.int .i64 y).wf = true := by
  obtain ⟨v0, v1, y0, y1, n, rfl, _, _, ha, hb⟩ := Go.Joins.open_agg2 hs hone hC hv h
  obtain ⟨x, hx, _, wx⟩ := DataW.trod_int h0 ha
  obtain ⟨y, hy, _, wy⟩ := DataW.trod_int h1 hb
  injection hx with hx _
  injection hy with hy _
  subst hx; subst hy
  exact ⟨x, y, rfl, wx, wy⟩
end
end Go.Proofs.YthcfjiapmigjiaaDoor
