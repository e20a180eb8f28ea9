/- Rows of cells of the call's own: parts, stores side by side, clear, copy, growth by zeros. Over any program. -/
import Derived.Test.YtlhhplhciiobfaaDoorAppend
import Derived.Laws.IdiomCopy
import Derived.Laws.Externs
import Derived.Lib.AppendZerosOnto
import Derived.Lib.Overlaps
import Derived.Deep.RegionLaw
namespace Go.Proofs.YtlhhplhciiobfaaDoor
open Go.RowKit
set_option linter.unusedVariables false

theorem own_take {w : World} {base : Nat} {e : TypeId} {size n m cap g : Nat} {xs : List Value} (h : w.ownsRow base e size (.slice (some ⟨g, 0, none⟩) n cap) n xs) (hm : m ≤ n) : w.ownsRow base e size (.slice (some ⟨g, 0, none⟩) m cap) m (xs.take (m * size)) := by
  rcases h.2 with ⟨h', _⟩ | ⟨g', cap', cur, h', hb, hg, hnc, hcm, hcs, htake⟩
  · simp at h'
  · simp only [Value.slice.injEq, Option.some.injEq, Addr.mk.injEq, and_true, true_and] at h'
    obtain ⟨rfl, rfl⟩ := h'
    have hmn := Nat.mul_le_mul_right size hm
    refine ⟨?_, .inr ⟨g, cap, cur, rfl, hb, hg, by omega, hcm, hcs, ?_⟩⟩
    · rw [List.length_take, h.1]; omega
    · rw [← htake, List.take_take]; congr 1; omega
theorem own_more {w : World} {base : Nat} {e : TypeId} {size n m cap g : Nat} {xs : List Value} (h : w.ownsRow base e size (.slice (some ⟨g, 0, none⟩) n cap) n xs) (hm : n ≤ m) (hc : m ≤ cap) : ∃ ys, ys.length = (m - n) * size ∧ w.ownsRow base e size (.slice (some ⟨g, 0, none⟩) m cap) m (xs ++ ys) := by
  rcases h.2 with ⟨h', _⟩ | ⟨g', cap', cur, h', hb, hg, hnc, hcm, hcs, htake⟩
  · simp at h'
  · simp only [Value.slice.injEq, Option.some.injEq, Addr.mk.injEq, and_true, true_and] at h'
    obtain ⟨rfl, rfl⟩ := h'
    have hmn := Nat.mul_le_mul_right size hm
    have hmc := Nat.mul_le_mul_right size hc
    have hcl : cur.toList.length = cap * size := by rw [Array.length_toList, hcs]
    have hsub : (m - n) * size = m * size - n * size := Nat.sub_mul _ _ _
    refine ⟨(cur.toList.take (m * size)).drop (n * size), ?_, ?_, .inr ⟨g, cap, cur, rfl, hb, hg, hc, hcm, hcs, ?_⟩⟩
    · rw [List.length_drop, List.length_take, hcl, hsub]; omega
    · rw [List.length_append, List.length_drop, List.length_take, hcl, h.1]; omega
    · rw [← htake]
      have : cur.toList.take (n * size) = (cur.toList.take (m * size)).take (n * size) := by rw [List.take_take]; congr 1; omega
      rw [this, List.take_append_drop]
/-- Stores side by side. -/
def setR : List Value → Nat → List Value → List Value
  | xs, _, [] => xs
  | xs, o, v :: vs => setR (xs.set o v) (o + 1) vs
theorem setR_past : ∀ (vs : List Value) (xs : List Value) (o : Nat), xs.length ≤ o → setR xs o vs = xs
  | [], _, _, _ => rfl
  | v :: vs, xs, o, h => by
    rw [setR, List.set_eq_of_length_le h, setR_past vs xs (o + 1) (by omega)]
theorem setR_mid : ∀ (vs q p r : List Value) (o : Nat), q.length = vs.length → o = p.length → setR (p ++ q ++ r) o vs = p ++ vs ++ r
  | [], q, p, r, o, h, _ => by
    have : q = [] := List.eq_nil_of_length_eq_zero h
    subst this; rfl
  | v :: vs, [], p, r, o, h, _ => by simp at h
  | v :: vs, a :: q, p, r, o, h, ho => by
    subst ho
    have e : (p ++ a :: q ++ r).set p.length v = (p ++ [v]) ++ q ++ r := by
      rw [List.append_assoc, List.set_append_right _ _ (Nat.le_refl _), Nat.sub_self]; simp
    rw [setR, e, setR_mid vs q (p ++ [v]) r (p.length + 1) (by simpa using h) (by simp)]
    simp
theorem own_setCells {base : Nat} {e : TypeId} {size n cap g : Nat} : ∀ (vs : List Value) (o : Nat) (w : World) (xs : List Value), w.ownsRow base e size (.slice (some ⟨g, 0, none⟩) n cap) n xs →
    (w.setCells g o vs).ownsRow base e size (.slice (some ⟨g, 0, none⟩) n cap) n (setR xs o vs) ∧ w.grownBy (w.setCells g o vs) (some g)
  | [], _, w, _, h => ⟨h, World.grownBy.refl _ _⟩
  | v :: vs, o, w, xs, h => by
    obtain ⟨h1, h2⟩ := h.stored o v
    obtain ⟨h3, h4⟩ := own_setCells vs (o + 1) (w.setCell ⟨g, o, none⟩ v) (xs.set o v) h1
    exact ⟨h3, grown_two h2 h4⟩
theorem own_some {w : World} {base : Nat} {e : TypeId} {size n cap g : Nat} {xs : List Value} (h : w.ownsRow base e size (.slice (some ⟨g, 0, none⟩) n cap) n xs) (j : Nat) (hj : j < n * size) : (w.cell? ⟨g, j, none⟩).isSome = true := by
  rw [h.cellAt j hj, List.getElem?_eq_getElem (by rw [h.1]; exact hj)]; rfl
theorem grown_drew (w : World) (row : Option Nat) : w.grownBy w.drew row := ⟨rfl, rfl, rfl, Nat.le_refl _, fun _ _ _ => rfl⟩

section
variable {P : Program} (w : World)
theorem run_clear_k (t e ty : TypeId) (z : Value) (k : Nat) (ht : P.underlying t = some (.slice e)) (hv : ∀ w, (zeroValue e).run P w = .ok z w) (hk : z.cells.size = k) (h1 : ∀ j, (z.cells[j % z.cells.size]!).oneCell' = true) (b o n c : Nat) (hn : 0 < n)
    (hc : ∀ j, j < n * k → (w.cell? ⟨b, o + j, none⟩).isSome = true) (hf : ∀ j, j < n * k → w.frozen? ⟨b, o + j, none⟩ = false) :
    (Builtin.clear_ #[t] ty #[.slice (some ⟨b, o, none⟩) n c]).run P w = .ok (.tuple #[]) (w.setCells b o (Builtin.zeroCells z.cells n).toList) := by
  have hl : (Builtin.zeroCells z.cells n).toList.length = n * k := by simp [Builtin.zeroCells, hk]
  have hst := run_storeCells_cells (P := P) b o (Builtin.zeroCells z.cells n).toList 0 w (by rw [hl]; simpa using hc) (by rw [hl]; simpa using hf) (by
    intro v hv'
    simp only [Builtin.zeroCells, Array.toList_map, List.mem_map] at hv'
    obtain ⟨j, _, rfl⟩ := hv'
    exact h1 j)
  simp only [Nat.add_zero] at hst
  obtain ⟨m, rfl⟩ : ∃ m, n = m + 1 := ⟨n - 1, by omega⟩
  simp [Builtin.clear_, run_underlying ht, hv, hst]
theorem run_copy_k (dT sT ty elem : TypeId) (k : Nat) (b o dLen dCap : Nat) (a : Addr) (sLen sCap : Nat) (cs : List Value)
    (hu : P.underlying dT = some (.slice elem)) (i : TypeInfo) (hi : P.info? elem = some i) (hs : i.size = k) (hn : cs.length = Nat.min sLen dLen * k)
    (hsrc : ∀ j v, cs[j]? = some v → w.cell? (a.add j) = some v) (hc : ∀ j, j < cs.length → (w.cell? ⟨b, o + j, none⟩).isSome = true) (hf : ∀ j, j < cs.length → w.frozen? ⟨b, o + j, none⟩ = false) (h1 : ∀ v ∈ cs, v.oneCell' = true) :
    (Builtin.copy_ #[dT, sT] ty #[.slice (some ⟨b, o, none⟩) dLen dCap, .slice (some a) sLen sCap]).run P w = .ok (goInt (Nat.min sLen dLen)) (w.setCells b o cs) := by
  have hl := run_loadCells_list (P := P) w a cs hsrc
  have hst := run_storeCells_cells (P := P) b o cs 0 w (by simpa using hc) (by simpa using hf) h1
  simp [Builtin.copy_, run_underlying hu, Builtin.lenOf, Builtin.firstCells, sizeOf, typeInfo, hi, hs, ← hn, hl, hst]

/-- copy into a row of the call's own. -/
theorem run_copy_own (dT sT ty elem : TypeId) (k base : Nat) (b o N cap dLen dCap : Nat) (a : Addr) (sLen sCap : Nat) (xs cs : List Value)
    (hu : P.underlying dT = some (.slice elem)) (i : TypeInfo) (hi : P.info? elem = some i) (hs : i.size = k) (hown : w.ownsRow base elem k (.slice (some ⟨b, 0, none⟩) N cap) N xs) (hn : cs.length = Nat.min sLen dLen * k) (ho : o + cs.length ≤ N * k)
    (hsrc : ∀ j v, cs[j]? = some v → w.cell? (a.add j) = some v) (h1 : ∀ v ∈ cs, v.oneCell' = true) :
    ∃ w', (Builtin.copy_ #[dT, sT] ty #[.slice (some ⟨b, o, none⟩) dLen dCap, .slice (some a) sLen sCap]).run P w = .ok (goInt (Nat.min sLen dLen)) w' ∧ w'.ownsRow base elem k (.slice (some ⟨b, 0, none⟩) N cap) N (setR xs o cs) ∧ w.grownBy w' (some b) := by
  obtain ⟨h2, h3⟩ := own_setCells cs o w xs hown
  exact ⟨_, run_copy_k w dT sT ty elem k b o dLen dCap a sLen sCap cs hu i hi hs hn hsrc (fun j hj => own_some hown _ (by omega)) (fun j hj => hown.frozenAt _) h1, h2, h3⟩
theorem wp_copy_own {o : Oper} {ac : Act} {K : Act → World → Prop} {Q : Exit → Act → World → Prop} (d s : Operand) (dT sT : TypeId)
    (hop : o.op = .call { callee := .builtin .copy, args := #[d, s], argTypes := #[dT, sT] }) (elem : TypeId) (k base : Nat) (b off N cap dLen dCap : Nat) (a : Addr) (sLen sCap : Nat) (xs cs : List Value)
    (hd : ac.eval d = .slice (some ⟨b, off, none⟩) dLen dCap) (hsv : ac.eval s = .slice (some a) sLen sCap)
    (hu : P.underlying dT = some (.slice elem)) (i : TypeInfo) (hi : P.info? elem = some i) (hs : i.size = k) (hown : w.ownsRow base elem k (.slice (some ⟨b, 0, none⟩) N cap) N xs) (hn : cs.length = Nat.min sLen dLen * k) (ho : off + cs.length ≤ N * k)
    (hsrc : ∀ j v, cs[j]? = some v → w.cell? (a.add j) = some v) (h1 : ∀ v ∈ cs, v.oneCell' = true)
    (h : ∀ w', w'.ownsRow base elem k (.slice (some ⟨b, 0, none⟩) N cap) N (setR xs off cs) → w.grownBy w' (some b) → K (ac.put o.dst (goInt (Nat.min sLen dLen))) w') : o.wp P ac w K Q := by
  obtain ⟨w', hrun, h2, h3⟩ := run_copy_own (P := P) w dT sT o.type elem k base b off N cap dLen dCap a sLen sCap xs cs hu i hi hs hown hn ho hsrc h1
  unfold Oper.wp execOp
  simp only [hop, resolve, invoke, builtin, Sem.run_bind, Sem.run_pure, Result.andThen_ok, List.map_toArray, List.map_cons, List.map_nil, hd, hsv, hrun]
  exact h w' h2 h3
theorem wpList_copy_own {ops : Array Oper} {rest : List Oper} {o : Oper} {ac : Act} {Q : Exit → Act → World → Prop} (hgd : o.guard = none) (d s : Operand) (dT sT : TypeId)
    (hop : o.op = .call { callee := .builtin .copy, args := #[d, s], argTypes := #[dT, sT] }) (elem : TypeId) (k base : Nat) (b off N cap dLen dCap : Nat) (a : Addr) (sLen sCap : Nat) (xs cs : List Value)
    (hd : ac.eval d = .slice (some ⟨b, off, none⟩) dLen dCap) (hsv : ac.eval s = .slice (some a) sLen sCap)
    (hu : P.underlying dT = some (.slice elem)) (i : TypeInfo) (hi : P.info? elem = some i) (hs : i.size = k) (hown : w.ownsRow base elem k (.slice (some ⟨b, 0, none⟩) N cap) N xs) (hn : cs.length = Nat.min sLen dLen * k) (ho : off + cs.length ≤ N * k)
    (hsrc : ∀ j v, cs[j]? = some v → w.cell? (a.add j) = some v) (h1 : ∀ v ∈ cs, v.oneCell' = true)
    (h : ∀ w', w'.ownsRow base elem k (.slice (some ⟨b, 0, none⟩) N cap) N (setR xs off cs) → w.grownBy w' (some b) → wpList P ops Q rest (ac.put o.dst (goInt (Nat.min sLen dLen))) w') : wpList P ops Q (o :: rest) ac w :=
  wpList_plain hgd fun _ hK => wp_copy_own w d s dT sT hop elem k base b off N cap dLen dCap a sLen sCap xs cs hd hsv hu i hi hs hown hn ho hsrc h1 fun w' h2 h3 => hK _ _ (h w' h2 h3)
theorem step_copy_own {ops : Array Oper} {o : Oper} {ac : Act} {K : Act → World → Prop} {Q : Exit → Act → World → Prop} {E : Prop} (hgd : o.guard = none) (d s : Operand) (dT sT : TypeId)
    (hop : o.op = .call { callee := .builtin .copy, args := #[d, s], argTypes := #[dT, sT] }) (elem : TypeId) (k base : Nat) (b off N cap dLen dCap : Nat) (a : Addr) (sLen sCap : Nat) (xs cs : List Value)
    (hd : ac.eval d = .slice (some ⟨b, off, none⟩) dLen dCap) (hsv : ac.eval s = .slice (some a) sLen sCap)
    (hu : P.underlying dT = some (.slice elem)) (i : TypeInfo) (hi : P.info? elem = some i) (hs : i.size = k) (hown : w.ownsRow base elem k (.slice (some ⟨b, 0, none⟩) N cap) N xs) (hn : cs.length = Nat.min sLen dLen * k) (ho : off + cs.length ≤ N * k)
    (hsrc : ∀ j v, cs[j]? = some v → w.cell? (a.add j) = some v) (h1 : ∀ v ∈ cs, v.oneCell' = true)
    (h : ∀ w', w'.ownsRow base elem k (.slice (some ⟨b, 0, none⟩) N cap) N (setR xs off cs) → w.grownBy w' (some b) → K (ac.put o.dst (goInt (Nat.min sLen dLen))) w') :
    if Region.wanted o (yielded ops ac.tmps) = true then Oper.wp P o ac w K Q else E := by
  have hw : Region.wanted o (yielded ops ac.tmps) = true := by simp [Region.wanted, hgd]
  rw [if_pos hw]
  exact wp_copy_own w d s dT sT hop elem k base b off N cap dLen dCap a sLen sCap xs cs hd hsv hu i hi hs hown hn ho hsrc h1 h
/-- append(s[:i], make(S, k)...) where there is no room: a new row. -/
theorem wpList_grow_zeros {ops : Array Oper} {rest : List Oper} {o : Oper} {ac : Act} {Q : Exit → Act → World → Prop} (hgd : o.guard = none) (d s : Operand) (t tn : TypeId)
    (hop : o.op = .call { callee := .builtin .append, args := #[d, s], argTypes := #[t, tn] }) (e : TypeId) (i : TypeInfo) (z : Value) (kq kn : IntKind) (size base : Nat) (b : Addr) (sLen sCap kk : Nat) (olds : List Value)
    (hd : ac.eval d = .slice (some b) sLen sCap) (hsv : ac.eval s = .int kq kk) (ht : P.underlying t = some (.slice e)) (htn : P.underlying tn = some (.int kn)) (hi : P.info? e = some i) (hz : i.zero = some z) (hsz : i.size = size) (hzs : z.cells.size = size)
    (hol : olds.length = sLen * size) (hold : ∀ j v, olds[j]? = some v → w.cell? (b.add j) = some v) (h0 : 0 < kk) (hs0 : 0 < size) (hg : sCap < sLen + kk) (h63 : sLen + kk ≤ maxLen) (h48 : kk * i.bytes ≤ 281474976710656) (hfit : Builtin.nextslicecap (sLen + kk) sCap * i.bytes ≤ 281474976710656) (hb : base ≤ w.heap.size)
    (h : ∀ G zs w', sLen + kk ≤ G → G ≤ maxLen → zs.length = kk * size → w'.ownsRow base e size (.slice (some ⟨w.heap.size, 0, none⟩) (sLen + kk) G) (sLen + kk) (olds ++ zs) → w.grownBy w' none → wpList P ops Q rest (ac.put o.dst (.slice (some ⟨w.heap.size, 0, none⟩) (sLen + kk) G)) w') : wpList P ops Q (o :: rest) ac w := by
  have hfc : (Builtin.firstCells i.size sLen (.slice (some b) sLen sCap)).run P w.drew = .ok olds.toArray w.drew :=
    run_firstCells_some w.drew i.size sLen b sLen sCap olds (by rw [hsz]; exact hol) (fun j v hj => hold j v hj)
  have hrun := Lib.run_append_grow_zeros (P := P) w t tn o.type e i z kq kn ht htn hi hz (some b) sLen sCap olds hfc kk h0 (by omega) hg (by unfold maxLen at h63; omega) h48 hfit
  obtain ⟨G, hG⟩ : ∃ G, G = grownCap w (sLen + kk) sCap e := ⟨_, rfl⟩
  have hG1 : sLen + kk ≤ G := by rw [hG]; exact grownCap_ge w _ _ _
  have hG2 : G ≤ maxLen := by rw [hG]; exact grownCap_le_maxLen w _ _ _ h63
  rw [← hG] at hrun
  have hzl : ∀ q, (Builtin.zeroCells z.cells q).size = q * size := fun q => by simp [Builtin.zeroCells, hzs]
  have hadd : (sLen + kk) * size + (G - (sLen + kk)) * size = G * size := by rw [← Nat.add_mul]; congr 1; omega
  have hadd2 : sLen * size + kk * size = (sLen + kk) * size := (Nat.add_mul _ _ _).symm
  refine wpList_plain hgd fun K hK => ?_
  unfold Oper.wp execOp
  simp only [hop, resolve, invoke, builtin, Sem.run_bind, Sem.run_pure, Result.andThen_ok, List.map_toArray, List.map_cons, List.map_nil, hd, hsv, hrun]
  refine hK _ _ (h G (Builtin.zeroCells z.cells kk).toList _ hG1 hG2 (by show (Builtin.zeroCells z.cells kk).size = _; rw [hzl]) ⟨by rw [List.length_append, hol]; show _ + (Builtin.zeroCells z.cells kk).size = _; rw [hzl, hadd2], .inr ⟨w.heap.size, G, _, rfl, hb, heap_alloc_new w.drew _, hG1, hG2, ?_, ?_⟩⟩ ?_)
  · rw [Array.size_append, Array.size_append, hzl, hzl, List.size_toArray, hol, hadd2, hadd]
  · have hlen : (olds ++ (Builtin.zeroCells z.cells kk).toList).length = (sLen + kk) * size := by rw [List.length_append, hol]; show _ + (Builtin.zeroCells z.cells kk).size = _; rw [hzl, hadd2]
    have e : (olds.toArray ++ Builtin.zeroCells z.cells kk ++ Builtin.zeroCells z.cells (G - (sLen + kk))).toList = (olds ++ (Builtin.zeroCells z.cells kk).toList) ++ (Builtin.zeroCells z.cells (G - (sLen + kk))).toList := by simp
    rw [e, List.take_append_of_le_length (by rw [hlen]; exact Nat.le_refl _), List.take_of_length_le (by rw [hlen]; exact Nat.le_refl _)]
  · exact ⟨rfl, rfl, rfl, by show w.heap.size ≤ (w.drew.alloc _).heap.size; rw [World.size_alloc]; exact Nat.le_succ _, fun q hq _ => Below.heap_alloc w.drew _ q hq⟩
end
end Go.Proofs.YtlhhplhciiobfaaDoor
