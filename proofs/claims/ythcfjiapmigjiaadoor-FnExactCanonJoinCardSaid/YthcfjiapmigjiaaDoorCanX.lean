/- slices.IndexFunc and slices.DeleteFunc at commands. -/
import Derived.Test.YthcfjiapmigjiaaDoorCanonL
import Derived.Test.YthcfjiapmigjiaaDoorLogV
import Derived.Test.YthcfjiapmigjiaaDoorSub
import Derived.Test.YthcfjiapmigjiaaDoorOut
import Derived.Lib.SliceRun
namespace Go.Proofs.YthcfjiapmigjiaaDoor
open Go.RowKit
set_option linter.unusedVariables false
set_option linter.unusedSimpArgs false
set_option maxRecDepth 20000

def idxI : Option Nat → Int
  | none => -1
  | some k => k
theorem idx_some {l : List Cmd} {k : Nat} {q : Cmd} {p : Cmd → Bool} (hq : l[k]? = some q) (h : ∀ j, j < k → ∀ q : Cmd, l[j]? = some q → p q = false) (hb : p q = true) : l.findIdx? p = some k := by
  obtain ⟨hk, rfl⟩ := List.getElem?_eq_some_iff.1 hq
  exact List.findIdx?_eq_some_iff_getElem.2 ⟨hk, hb, fun j hj => by rw [h j hj _ (List.getElem?_eq_getElem _)]; simp⟩
theorem idx_next {l : List Cmd} {k : Nat} {q : Cmd} {p : Cmd → Bool} (hq : l[k]? = some q) (h : ∀ j, j < k → ∀ q : Cmd, l[j]? = some q → p q = false) (hb : p q = false) : ∀ j, j < k + 1 → ∀ q : Cmd, l[j]? = some q → p q = false := by
  intro j hj d hd
  by_cases hjk : j = k
  · subst hjk; rw [hq] at hd; injection hd with hd; subst hd; exact hb
  · exact h j (by omega) d hd
theorem idx_none {l : List Cmd} {k : Nat} {p : Cmd → Bool} (hk : l.length ≤ k) (h : ∀ j, j < k → ∀ q : Cmd, l[j]? = some q → p q = false) : l.findIdx? p = none :=
  List.findIdx?_eq_none_iff.2 fun d hd => by
    obtain ⟨j, hj, rfl⟩ := List.getElem_of_mem hd
    exact h j (by omega) _ (List.getElem?_eq_getElem _)

theorem implHas_any (q : Cmd) (g : Nat) (s : ByteArray) (x y z u : Int) (w : World) (P : Blk w g 52 #[.string s, .int .i64 x, .int .i64 y, .int .i64 z, .int .i64 u]) :
    Calls Tryd.prog 41 #[.agg #[.string q.p, .int .i64 q.x, .int .i64 q.y, .int .i64 q.z, .int .i64 q.u], .pointer (some ⟨g, 0, none⟩)] w fun e w' => e = .returned (.bool (decide (q.s = s.data.toList))) ∧ Below w.heap.size w w' := by
  have bw0 := below_alloc (Below.refl w.heap.size w) (.cells #[.string q.p, .int .i64 q.x, .int .i64 q.y, .int .i64 q.z, .int .i64 q.u] 52)
  obtain ⟨p0, p1, p2, p3, p4⟩ := blk5 (P.alloc (.cells #[.string q.p, .int .i64 q.x, .int .i64 q.y, .int .i64 q.z, .int .i64 q.u] 52))
  have HR := Lib.hid (show decide (q.s = s.data.toList) = (q.p.toList == s.toList) by rw [toList_is (s := q.p) rfl, toList_is (s := s) rfl, Bool.eq_iff_iff]; simp [Cmd.s])
  clear p1 p2 p3 p4
  go_enter Tryd.func41, Tryd.ntmps41
  go_wp2_with fail
  go_ret
  exact ⟨ret_bool HR.out.symm, bw0⟩
theorem implUnch_any (q : Cmd) (w : World) :
    Calls Tryd.prog 43 #[.agg #[.string q.p, .int .i64 q.x, .int .i64 q.y, .int .i64 q.z, .int .i64 q.u]] w fun e w' => e = .returned (.bool (!chg q)) ∧ Below w.heap.size w w' := by
  by_cases h1 : q.x = q.z
  · by_cases h2 : q.y = q.u
    · have HR := Lib.hid (show (!chg q) = true by unfold chg; rw [h1, h2]; simp)
      go_enter Tryd.func43, Tryd.ntmps43
      go_wp2_with fail
      all_goals go_ret
      all_goals exact ⟨ret_bool (by rw [HR.out]; try simp [h1, h2]), below_alloc (Below.refl _ _) _⟩
    · have HR := Lib.hid (show (!chg q) = false by unfold chg; simp [h2])
      go_enter Tryd.func43, Tryd.ntmps43
      go_wp2_with fail
      all_goals go_ret
      all_goals exact ⟨ret_bool (by rw [HR.out]; try simp [h1, h2]), below_alloc (Below.refl _ _) _⟩
  · have HR := Lib.hid (show (!chg q) = false by unfold chg; simp [h1])
    go_enter Tryd.func43, Tryd.ntmps43
    go_wp2_with fail
    all_goals go_ret
    all_goals exact ⟨ret_bool (by rw [HR.out]; try simp [h1]), below_alloc (Below.refl _ _) _⟩

set_option maxHeartbeats 1000000 in
theorem indexHas_any (A : Option Addr) (n c : Nat) (l : List Cmd) (g : Nat) (s : ByteArray) (x y z u : Int) (w : World) (hn : n ≤ 4194304) (hl : l.length = n) (ha : At encK 5 w A l) (P : Blk w g 52 #[.string s, .int .i64 x, .int .i64 y, .int .i64 z, .int .i64 u]) :
    Calls Tryd.prog 40 #[.slice A n c, .func (.func 41) #[] #[.pointer (some ⟨g, 0, none⟩)]] w fun e w' => e = .returned (.int .i64 (idxI (l.findIdx? fun q => decide (q.s = s.data.toList)))) ∧ Below w.heap.size w w' := by
  obtain ⟨i0, hi, hz0, hz1, hz2⟩ := info_parts infoK
  have HL := Lib.hid hl
  clear hl
  go_enter Tryd.func40, Tryd.ntmps40
  go_wp2_with fail
  go_loopw [8] (fun i wr => ∃ k : Nat, i = .int .i64 k ∧ k ≤ n ∧ Hid (∀ j, j < k → ∀ q : Cmd, l[j]? = some q → (decide (q.s = s.data.toList)) = false) ∧ Below w.heap.size w wr) (fun i _ => n - (intOf i).toNat)
  case atStart => exact ⟨0, rfl, Nat.zero_le _, Lib.hid (fun j hj => by omega), Below.refl _ _⟩
  case round =>
    obtain ⟨k, rfl, hk, HA, hbw⟩ := hrel
    by_cases hlt : k < n
    · have hlk : k < l.length := by rw [HL.out]; exact hlt
      have hidx := fun W => run_index_any (c := c) Tryd.underlying24 hi hz1 (ha.addr (by rw [HL.out]; omega)) hlt W
      obtain ⟨q, hq⟩ : ∃ q, l[k] = q := ⟨_, rfl⟩
      have HQ := Lib.hid (show l[k]? = some q by rw [List.getElem?_eq_getElem hlk, hq])
      obtain ⟨c0, c1, c2, c3, c4⟩ := at5 (ha.belowS hbw) hlk hq
      clear hq
      obtain ⟨b, hb⟩ : ∃ b, (decide (q.s = s.data.toList)) = b := ⟨_, rfl⟩
      have HB := Lib.hid hb
      clear hb
      cases b with
      | true =>
        have HN := Lib.hid (idx_some HQ.out HA.out HB.out)
        go_wp2_with fail
        refine (implHas_any q g s x y z u _ (P.belowS hbw)).mono ?_
        rw [HB.out]
        rintro e w1 ⟨rfl, hb1⟩
        have bw1 := below_step hbw hb1
        go_wp2_with fail
        go_ret
        exact ⟨ret_int (by rw [HN.out]; rfl), bw1⟩
      | false =>
        have HN := Lib.hid (idx_next HQ.out HA.out HB.out)
        go_wp2_with fail
        refine (implHas_any q g s x y z u _ (P.belowS hbw)).mono ?_
        rw [HB.out]
        rintro e w1 ⟨rfl, hb1⟩
        have bw1 := below_step hbw hb1
        go_wp2_with fail
        go_roundw
        case rel => exact ⟨k + 1, by go_num, by omega, HN, bw1⟩
        case measure => simp [intOf]; omega
    · obtain rfl : n = k := by omega
      have HN := Lib.hid (idx_none (by rw [HL.out]; exact Nat.le_refl _) HA.out)
      go_wp2_with fail
      go_ret
      exact ⟨ret_int (by rw [HN.out]; rfl), hbw⟩


set_option maxHeartbeats 1000000 in
theorem indexUnch_any (A : Option Addr) (n c : Nat) (l : List Cmd) (w : World) (hn : n ≤ 4194304) (hl : l.length = n) (ha : At encK 5 w A l) :
    Calls Tryd.prog 40 #[.slice A n c, .func (.func 43) #[] #[]] w fun e w' => e = .returned (.int .i64 (idxI (l.findIdx? fun q => !chg q))) ∧ Below w.heap.size w w' := by
  obtain ⟨i0, hi, hz0, hz1, hz2⟩ := info_parts infoK
  have HL := Lib.hid hl
  clear hl
  go_enter Tryd.func40, Tryd.ntmps40
  go_wp2_with fail
  go_loopw [8] (fun i wr => ∃ k : Nat, i = .int .i64 k ∧ k ≤ n ∧ Hid (∀ j, j < k → ∀ q : Cmd, l[j]? = some q → (!chg q) = false) ∧ Below w.heap.size w wr) (fun i _ => n - (intOf i).toNat)
  case atStart => exact ⟨0, rfl, Nat.zero_le _, Lib.hid (fun j hj => by omega), Below.refl _ _⟩
  case round =>
    obtain ⟨k, rfl, hk, HA, hbw⟩ := hrel
    by_cases hlt : k < n
    · have hlk : k < l.length := by rw [HL.out]; exact hlt
      have hidx := fun W => run_index_any (c := c) Tryd.underlying24 hi hz1 (ha.addr (by rw [HL.out]; omega)) hlt W
      obtain ⟨q, hq⟩ : ∃ q, l[k] = q := ⟨_, rfl⟩
      have HQ := Lib.hid (show l[k]? = some q by rw [List.getElem?_eq_getElem hlk, hq])
      obtain ⟨c0, c1, c2, c3, c4⟩ := at5 (ha.belowS hbw) hlk hq
      clear hq
      obtain ⟨b, hb⟩ : ∃ b, (!chg q) = b := ⟨_, rfl⟩
      have HB := Lib.hid hb
      clear hb
      cases b with
      | true =>
        have HN := Lib.hid (idx_some HQ.out HA.out HB.out)
        go_wp2_with fail
        refine (implUnch_any q _).mono ?_
        rw [HB.out]
        rintro e w1 ⟨rfl, hb1⟩
        have bw1 := below_step hbw hb1
        go_wp2_with fail
        go_ret
        exact ⟨ret_int (by rw [HN.out]; rfl), bw1⟩
      | false =>
        have HN := Lib.hid (idx_next HQ.out HA.out HB.out)
        go_wp2_with fail
        refine (implUnch_any q _).mono ?_
        rw [HB.out]
        rintro e w1 ⟨rfl, hb1⟩
        have bw1 := below_step hbw hb1
        go_wp2_with fail
        go_roundw
        case rel => exact ⟨k + 1, by go_num, by omega, HN, bw1⟩
        case measure => simp [intOf]; omega
    · obtain rfl : n = k := by omega
      have HN := Lib.hid (idx_none (by rw [HL.out]; exact Nat.le_refl _) HA.out)
      go_wp2_with fail
      go_ret
      exact ⟨ret_int (by rw [HN.out]; rfl), hbw⟩

theorem run_clear_k {P : Program} (w : World) (t e ty : TypeId) (z : Value) (ht : P.underlying t = some (.slice e)) (hv : ∀ w, (zeroValue e).run P w = .ok z w) (h1 : ∀ v ∈ z.cells, v.oneCell' = true) (b o n c : Nat) (hn : 0 < n)
    (hc : ∀ j, j < n * z.cells.size → (w.cell? ⟨b, o + j, none⟩).isSome = true) (hf : ∀ j, j < n * z.cells.size → w.frozen? ⟨b, o + j, none⟩ = false) :
    (Builtin.clear_ #[t] ty #[.slice (some ⟨b, o, none⟩) n c]).run P w = .ok (.tuple #[]) (w.setCells b o (Builtin.zeroCells z.cells n).toList) := by
  have hlen : (Builtin.zeroCells z.cells n).toList.length = n * z.cells.size := by simp [Builtin.zeroCells]
  have h1' : ∀ v ∈ (Builtin.zeroCells z.cells n).toList, v.oneCell' = true := by
    intro v hv'
    simp [Builtin.zeroCells] at hv'
    obtain ⟨i, hi, rfl⟩ := hv'
    have hlt : i % z.cells.size < z.cells.size := Nat.mod_lt _ (Nat.pos_of_ne_zero fun h => by simp [h] at hi)
    rw [getElem!_pos z.cells (i % z.cells.size) hlt]
    exact h1 _ (Array.getElem_mem hlt)
  have hst := run_storeCells_cells (P := P) b o _ 0 w (by rw [hlen]; simpa using hc) (by rw [hlen]; simpa using hf) h1'
  simp only [Nat.add_zero] at hst
  obtain ⟨m, rfl⟩ : ∃ m, n = m + 1 := ⟨n - 1, by omega⟩
  simp [Builtin.clear_, run_underlying ht, hv, hst]
theorem own_setCells {B g n c : Nat} {e : TypeId} : ∀ (L : List Value) (o : Nat) (cs : List Value) (w : World), w.ownsRow B e 5 (.slice (some ⟨g, 0, none⟩) n c) n cs →
    ∃ cs', (w.setCells g o L).ownsRow B e 5 (.slice (some ⟨g, 0, none⟩) n c) n cs' ∧ cs'.take o = cs.take o ∧ Below B w (w.setCells g o L)
  | [], o, cs, w, h => ⟨cs, h, rfl, Below.refl _ _⟩
  | v :: L, o, cs, w, h => by
    have hB : B ≤ g := (h.lt g rfl).1
    obtain ⟨cs', h1, h2, h3⟩ := own_setCells L (o + 1) (cs.set o v) _ (h.stored o v).1
    refine ⟨cs', h1, ?_, ((Below.refl B w).setCell (p := ⟨g, o, none⟩) hB v).trans h3⟩
    have h4 : cs'.take o = (cs'.take (o + 1)).take o := by rw [List.take_take, Nat.min_eq_left (Nat.le_succ o)]
    rw [h4, h2, List.take_take, Nat.min_eq_left (Nat.le_succ o)]
    apply List.ext_getElem?
    intro j
    by_cases hj : j < o
    · rw [List.getElem?_take_of_lt hj, List.getElem?_take_of_lt hj, List.getElem?_set_ne (by omega)]
    · rw [List.getElem?_take_eq_none (by omega), List.getElem?_take_eq_none (by omega)]
theorem own_cut {w : World} {B g n c i : Nat} {e : TypeId} {cs : List Value} (h : w.ownsRow B e 5 (.slice (some ⟨g, 0, none⟩) n c) n cs) (hi : i ≤ n) : w.ownsRow B e 5 (.slice (some ⟨g, 0, none⟩) i c) i (cs.take (i * 5)) := by
  have hl := h.1
  rcases h.2 with ⟨h0, _⟩ | ⟨g', cap', cur, hv, hg, hb, h1, h2, h3, h4⟩
  · cases h0
  cases hv
  have hle : i * 5 ≤ n * 5 := Nat.mul_le_mul_right 5 hi
  exact ⟨by rw [List.length_take, hl]; omega, .inr ⟨g, c, cur, rfl, hg, hb, by omega, h2, h3, by rw [← h4, List.take_take, Nat.min_eq_left hle]⟩⟩
/-- What DeleteFunc has done when it stands at j. -/
structure KI (l R : List Cmd) (i j : Nat) : Prop where
  len : R.length = l.length
  lt : i < j
  low : R.take i = (l.take j).filter chg
  high : R.drop j = l.drop j
theorem KI.start {l : List Cmd} {k : Nat} (h : l.findIdx? (fun q => !chg q) = some k) : k < l.length ∧ KI l l k (k + 1) := by
  obtain ⟨hk, hp, hj⟩ := List.findIdx?_eq_some_iff_getElem.1 h
  refine ⟨hk, rfl, Nat.lt_succ_self _, ?_, rfl⟩
  rw [take_snoc' l k hk, List.filter_append]
  have hp' : chg l[k] = false := by simpa using hp
  have h1 : (l.take k).filter chg = l.take k := List.filter_eq_self.2 fun q hq => by
    obtain ⟨j, hj', rfl⟩ := List.getElem_of_mem hq
    have hjk : j < k := by simp at hj'; omega
    have := hj j hjk
    rw [List.getElem_take]
    simpa using this
  rw [h1]
  simp [hp']
theorem KI.at {l R : List Cmd} {i j : Nat} (h : KI l R i j) (hj : j < l.length) : R[j]? = l[j]? := by
  have h1 : (R.drop j)[0]? = (l.drop j)[0]? := by rw [h.high]
  simpa using h1
theorem drop_next {l R : List Cmd} {j : Nat} (h : R.drop j = l.drop j) : R.drop (j + 1) = l.drop (j + 1) := by
  rw [← List.drop_drop, ← List.drop_drop, h]
theorem KI.skip {l R : List Cmd} {i j : Nat} (h : KI l R i j) (hj : j < l.length) (hq : chg l[j] = false) : KI l R i (j + 1) :=
  ⟨h.len, by have := h.lt; omega, by rw [take_snoc' l j hj, List.filter_append, ← h.low]; simp [hq], drop_next h.high⟩
theorem KI.keep {l R : List Cmd} {i j : Nat} (h : KI l R i j) (hj : j < l.length) (hq : chg l[j] = true) : KI l (R.set i l[j]) (i + 1) (j + 1) := by
  have hi : i < R.length := by have := h.lt; have := h.len; omega
  refine ⟨by simpa using h.len, by have := h.lt; omega, ?_, ?_⟩
  · rw [take_snoc' l j hj, List.filter_append, ← h.low, take_snoc' _ i (by simpa using hi), List.getElem_set_self]
    have h1 : (R.set i l[j]).take i = R.take i := by
      apply List.ext_getElem?
      intro t
      by_cases ht : t < i
      · rw [List.getElem?_take_of_lt ht, List.getElem?_take_of_lt ht, List.getElem?_set_ne (by omega)]
      · rw [List.getElem?_take_eq_none (by omega), List.getElem?_take_eq_none (by omega)]
    rw [h1]
    simp [hq]
  · rw [← drop_next h.high]
    apply List.ext_getElem?
    intro t
    rw [List.getElem?_drop, List.getElem?_drop, List.getElem?_set_ne (by have := h.lt; omega)]
theorem KI.fin {l R : List Cmd} {i j : Nat} (h : KI l R i j) (hj : l.length ≤ j) (hi : i ≤ l.length) : R.take i = l.filter chg ∧ (l.filter chg).length = i := by
  have h1 : R.take i = l.filter chg := by rw [h.low, List.take_of_length_le hj]
  exact ⟨h1, by rw [← h1, List.length_take, h.len]; omega⟩
theorem flat_set {R : List Cmd} {i : Nat} (hi : i < R.length) (q : Cmd) :
    ((((((R.flatMap encK).set (i * 5) (.string q.p)).set (i * 5 + 1) (.int .i64 q.x)).set (i * 5 + 2) (.int .i64 q.y)).set (i * 5 + 3) (.int .i64 q.z)).set (i * 5 + 4) (.int .i64 q.u)) = (R.set i q).flatMap encK := by
  have hu : ((R.take i).flatMap encK).length = i * 5 := by rw [flat_len encK_len, List.length_take]; omega
  have e1 : R.flatMap encK = (R.take i).flatMap encK ++ .string R[i].p :: .int .i64 R[i].x :: .int .i64 R[i].y :: .int .i64 R[i].z :: .int .i64 R[i].u :: (R.drop (i + 1)).flatMap encK := by
    conv => lhs; rw [← List.take_append_drop i R, List.drop_eq_getElem_cons hi, List.flatMap_append, List.flatMap_cons]
    rfl
  rw [e1, set5 _ _ _ hu, List.set_eq_take_append_cons_drop, if_pos hi, List.flatMap_append, List.flatMap_cons]
  rfl
theorem flat_take (R : List Cmd) (i : Nat) : (R.flatMap encK).take (i * 5) = (R.take i).flatMap encK := by
  by_cases hi : i ≤ R.length
  · have hu : ((R.take i).flatMap encK).length = i * 5 := by rw [flat_len encK_len, List.length_take]; omega
    conv => lhs; rw [← List.take_append_drop i R, List.flatMap_append, ← hu]
    simp
  · rw [List.take_of_length_le (l := R.flatMap encK) (by rw [flat_len encK_len]; omega), List.take_of_length_le (l := R) (by omega)]
theorem below_stepB {B : Nat} {w W w1 : World} (hB : B ≤ w.heap.size) (h : Below B w W) (k : Below W.heap.size W w1) : Below B w w1 := h.trans (k.mono (Nat.le_trans hB h.size))

set_option maxHeartbeats 4000000 in
theorem deleteSame_any (A : Option Addr) (n c B : Nat) (l : List Cmd) (w : World) (hn : n ≤ 4194304) (hB : B ≤ w.heap.size) (hl : l.length = n) (ho : w.ownsRow B 52 5 (.slice A n c) n (l.flatMap encK)) :
    Calls Tryd.prog 42 #[.slice A n c, .func (.func 43) #[] #[]] w fun e w' => ∃ m, e = .returned (.slice A m c) ∧ (l.filter chg).length = m ∧ m ≤ n ∧ w'.ownsRow B 52 5 (.slice A m c) m ((l.filter chg).flatMap encK) ∧ Below B w w' := by
  obtain ⟨i0, hi0, hj0, hj1, hj2⟩ := info_parts infoK
  have HL := Lib.hid hl
  clear hl
  cases hf : l.findIdx? (fun q => !chg q) with
  | none =>
    have e1 : idxI (l.findIdx? fun q => !chg q) = -1 := by rw [hf]; rfl
    have HF := Lib.hid (show l.filter chg = l from List.filter_eq_self.2 fun q hq => by have := List.findIdx?_eq_none_iff.1 hf q hq; simpa using this)
    clear hf
    go_enter Tryd.func42, Tryd.ntmps42
    go_wp2_with fail
    refine (indexUnch_any A n c l _ hn HL.out (own_at encK_len ho HL.out)).mono ?_
    rw [e1]
    rintro e w1 ⟨rfl, hb1⟩
    go_wp2_with fail
    go_ret
    exact ⟨n, rfl, by rw [HF.out, HL.out], Nat.le_refl _, by rw [HF.out]; exact own_belowS ho hb1, hb1.mono hB⟩
  | some k0 =>
    have e1 : idxI (l.findIdx? fun q => !chg q) = (k0 : Int) := by rw [hf]; rfl
    obtain ⟨hk0, hKI⟩ := KI.start hf
    rw [HL.out] at hk0
    have HK0 := Lib.hid hKI
    clear hf hKI
    have hne1 : ((k0 : Int) == -1) = false := beq_eq_false_iff_ne.2 (by omega)
    obtain ⟨A', c', hv, hnc, hcm, hA⟩ := own_form ho
    injection hv with hv1 _ hv3
    subst hv1
    subst hv3
    obtain ⟨hA1, hA2, -⟩ := hA (by omega)
    obtain ⟨g, hg⟩ : ∃ g, blk A = g := ⟨_, rfl⟩
    rw [hg] at hA1 hA2
    clear hg hA
    subst hA1
    go_enter Tryd.func42, Tryd.ntmps42
    go_wp2_with fail
    refine (indexUnch_any (some ⟨g, 0, none⟩) n c l _ hn HL.out (own_at encK_len ho HL.out)).mono ?_
    rw [e1]
    rintro e w1 ⟨rfl, hb1⟩
    have ho1 := own_belowS ho hb1
    have bw1 : Below B w w1 := hb1.mono hB
    clear ho e1 hb1
    go_wp2_with fail
    go_loopw [5, 6] (fun a b wr => ∃ (i j : Nat) (R : List Cmd), a = .int .i64 i ∧ b = .int .i64 j ∧ j ≤ n ∧ i < n ∧ Hid (KI l R i j) ∧ wr.ownsRow B 52 5 (.slice (some ⟨g, 0, none⟩) n c) n (R.flatMap encK) ∧ Below B w wr) (fun _ b _ => n - (intOf b).toNat)
    case atStart => exact ⟨k0, k0 + 1, l, rfl, by go_num, by omega, hk0, HK0, ho1, bw1⟩
    case round =>
      clear ho1 bw1 HK0
      obtain ⟨i, j, R, rfl, rfl, hj, hi, HK, ho, hbw⟩ := hrel
      have HR := Lib.hid (show R.length = n from HK.out.len.trans HL.out)
      by_cases hlt : j < n
      · have hlj : j < l.length := by rw [HL.out]; exact hlt
        have hidx : ∀ W, (Instr.indexAt 24 (.slice (some ⟨g, 0, none⟩) n c) (.int .i64 (j : Int))).run Tryd.prog W = .ok (.pointer (some ⟨g, j * 5, none⟩)) W := fun W => by
          have := run_index_any (c := c) (A := some ⟨g, 0, none⟩) Tryd.underlying24 hi0 hj1 rfl hlt W
          simpa using this
        have hidx2 : ∀ W, (Instr.indexAt 24 (.slice (some ⟨g, 0, none⟩) n c) (.int .i64 (i : Int))).run Tryd.prog W = .ok (.pointer (some ⟨g, i * 5, none⟩)) W := fun W => by
          have := run_index_any (c := c) (A := some ⟨g, 0, none⟩) Tryd.underlying24 hi0 hj1 rfl hi W
          simpa using this
        obtain ⟨q, hq⟩ : ∃ q, l[j] = q := ⟨_, rfl⟩
        have HQ := Lib.hid hq
        have hRj : R[j]'(by rw [HR.out]; exact hlt) = q := by
          have := HK.out.at hlj
          rw [List.getElem?_eq_getElem (by rw [HR.out]; exact hlt), List.getElem?_eq_getElem hlj, hq] at this
          injection this
        have cs := at5 (own_at encK_len ho HR.out) (by rw [HR.out]; exact hlt) hRj
        simp only [blk_some, off_some, Nat.zero_add] at cs
        obtain ⟨c0, c1, c2, c3, c4⟩ := cs
        clear hq hRj
        obtain ⟨b, hb⟩ : ∃ b, chg q = b := ⟨_, rfl⟩
        have HB := Lib.hid hb
        clear hb
        have P0 := Blk.new wr 52 #[.string q.p, .int .i64 q.x, .int .i64 q.y, .int .i64 q.z, .int .i64 q.u]
        have bw0 := hbw.alloc (by have := hbw.size; omega) (.cells #[.string q.p, .int .i64 q.x, .int .i64 q.y, .int .i64 q.z, .int .i64 q.u] 52)
        have hoP := ho.alloc (.cells #[.string q.p, .int .i64 q.x, .int .i64 q.y, .int .i64 q.z, .int .i64 q.u] 52)
        obtain ⟨v, hv⟩ : ∃ v, wr.heap.size = v := ⟨_, rfl⟩
        obtain ⟨W0, hW0⟩ : ∃ W0, W0 = wr.alloc (.cells #[.string q.p, .int .i64 q.x, .int .i64 q.y, .int .i64 q.z, .int .i64 q.u] 52) := ⟨_, rfl⟩
        rw [hv, ← hW0] at P0
        rw [← hW0] at bw0 hoP
        go_upto_region 8 with fail
        try rw [hv]
        rw [← hW0]
        clear hv hW0 c0 c1 c2 c3 c4 ho hbw
        obtain ⟨p0, p1, p2, p3, p4⟩ := blk5 P0
        cases b with
        | true =>
          have HN := Lib.hid (show KI l (R.set i q) (i + 1) (j + 1) by have := HK.out.keep hlj (by rw [HQ.out]; exact HB.out); rwa [HQ.out] at this)
          go_wp2_with fail
          refine (implUnch_any q _).mono ?_
          rw [HB.out]
          rintro e w2 ⟨rfl, hb2⟩
          have bw2 := below_stepB hB bw0 hb2
          have ho2 := own_belowS hoP hb2
          have P2 := P0.belowS hb2
          clear p0 p1 p2 p3 p4
          obtain ⟨p0, p1, p2, p3, p4⟩ := blk5 P2
          have hlen : (R.flatMap encK).length = n * 5 := ho2.1
          have HLEN := Lib.hid hlen
          clear hlen
          have cellOf : ∀ r, r < 5 → ∃ v, w2.cell? ⟨g, i * 5 + r, none⟩ = some v := fun r hr => ⟨(R.flatMap encK)[i * 5 + r]'(by have := HLEN.out; omega), by rw [ho2.cellAt (i * 5 + r) (by omega)]; exact List.getElem?_eq_getElem _⟩
          obtain ⟨v0, d0⟩ := cellOf 0 (by omega)
          obtain ⟨v1, d1⟩ := cellOf 1 (by omega)
          obtain ⟨v2, d2⟩ := cellOf 2 (by omega)
          obtain ⟨v3, d3⟩ := cellOf 3 (by omega)
          obtain ⟨v4, d4⟩ := cellOf 4 (by omega)
          rw [Nat.add_zero] at d0
          have f0 := ho2.frozenAt (i * 5)
          have f1 := ho2.frozenAt (i * 5 + 1)
          have f2 := ho2.frozenAt (i * 5 + 2)
          have f3 := ho2.frozenAt (i * 5 + 3)
          have f4 := ho2.frozenAt (i * 5 + 4)
          have s0 := (ho2.stored (i * 5) (.string q.p)).1
          have s1 := (s0.stored (i * 5 + 1) (.int .i64 q.x)).1
          have s2 := (s1.stored (i * 5 + 2) (.int .i64 q.y)).1
          have s3 := (s2.stored (i * 5 + 3) (.int .i64 q.z)).1
          have s4 := (s3.stored (i * 5 + 4) (.int .i64 q.u)).1
          have S4 := Lib.hid s4
          clear cellOf s0 s1 s2 s3 s4
          go_wp2_with fail
          go_roundw
          case rel => exact ⟨i + 1, j + 1, R.set i q, by go_num, by go_num, by omega, by have := HK.out.lt; omega, HN, by rw [← flat_set (by rw [HR.out]; exact hi)]; exact S4.out, ((((bw2.setCell (p := ⟨g, i * 5, none⟩) hA2 _).setCell (p := ⟨g, i * 5 + 1, none⟩) hA2 _).setCell (p := ⟨g, i * 5 + 2, none⟩) hA2 _).setCell (p := ⟨g, i * 5 + 3, none⟩) hA2 _).setCell (p := ⟨g, i * 5 + 4, none⟩) hA2 _⟩
          case measure => simp [intOf]; omega
        | false =>
          have HN := Lib.hid (show KI l R i (j + 1) from HK.out.skip hlj (by rw [HQ.out]; exact HB.out))
          go_wp2_with fail
          refine (implUnch_any q _).mono ?_
          rw [HB.out]
          rintro e w2 ⟨rfl, hb2⟩
          have bw2 := below_stepB hB bw0 hb2
          have ho2 := own_belowS hoP hb2
          clear p0 p1 p2 p3 p4
          go_wp2_with fail
          go_roundw
          case rel => exact ⟨i, j + 1, R, rfl, by go_num, by omega, hi, HN, ho2, bw2⟩
          case measure => simp [intOf]; omega
      · obtain rfl : n = j := by omega
        obtain ⟨hF1, hF2⟩ := HK.out.fin (by rw [HL.out]; exact Nat.le_refl _) (by rw [HL.out]; omega)
        have HF1 := Lib.hid hF1
        have HF2 := Lib.hid hF2
        clear hF1 hF2
        have hsl : ∀ W, (Instr.slice 24 (.slice (some ⟨g, 0, none⟩) n c) (some (.int .i64 (i : Int))) none none).run Tryd.prog W = .ok (.slice (some ⟨g, i * 5, none⟩) (n - i) (c - i)) W := fun W => by
          have := run_slice_from Tryd.underlying24 hi0 hj1 (some ⟨g, 0, none⟩) n c W i (by omega)
          rw [this]
          unfold Go.Proofs.YthcfjiapmigjiaaDoor.sub
          rw [if_neg (by omega)]
          simp only [Option.map_some]
          unfold Addr.add
          split
          · next h => simp [h]
          · simp
        have hsu : ∀ W, (Instr.slice 24 (.slice (some ⟨g, 0, none⟩) n c) none (some (.int .i64 (i : Int))) none).run Tryd.prog W = .ok (.slice (some ⟨g, 0, none⟩) i c) W := fun W => run_slice_upto Tryd.underlying24 hi0 hj1 (some ⟨g, 0, none⟩) n c W i (by omega)
        have hcl : ∀ ty, (Builtin.clear_ #[24] ty #[.slice (some ⟨g, i * 5, none⟩) (n - i) (c - i)]).run Tryd.prog wr = .ok (.tuple #[]) (wr.setCells g (i * 5) (Builtin.zeroCells (Value.agg #[.string ByteArray.empty, .int .i64 0, .int .i64 0, .int .i64 0, .int .i64 0]).cells (n - i)).toList) := fun ty => by
          refine run_clear_k wr _ 52 ty (.agg #[.string ByteArray.empty, .int .i64 0, .int .i64 0, .int .i64 0, .int .i64 0]) Tryd.underlying24 (fun W => Tryd.zeroValue52 W) (by intro v hv; simp [Value.cells] at hv; rcases hv with rfl | rfl <;> rfl) g (i * 5) (n - i) (c - i) (by omega) ?_ ?_
          · intro t ht
            have ht' : t < (n - i) * 5 := ht
            rw [ho.cellAt (i * 5 + t) (by omega), List.getElem?_eq_getElem (by rw [ho.1]; omega)]; rfl
          · intro t ht; exact ho.frozenAt _
        obtain ⟨cs', hS, hT, hBS⟩ := own_setCells (Builtin.zeroCells (Value.agg #[.string ByteArray.empty, .int .i64 0, .int .i64 0, .int .i64 0, .int .i64 0]).cells (n - i)).toList (i * 5) _ _ ho
        have hC := own_cut hS (Nat.le_of_lt hi)
        rw [hT, flat_take, HF1.out] at hC
        have hBW := hbw.trans hBS
        clear hS hT hBS ho hbw
        obtain ⟨W1, hW1⟩ : ∃ W1, wr.setCells g (i * 5) (Builtin.zeroCells (Value.agg #[.string ByteArray.empty, .int .i64 0, .int .i64 0, .int .i64 0, .int .i64 0]).cells (n - i)).toList = W1 := ⟨_, rfl⟩
        rw [hW1] at hcl hC hBW
        clear hW1
        go_wp2_with fail
        go_ret
        exact ⟨i, rfl, HF2.out, Nat.le_of_lt hi, hC, hBW⟩
end Go.Proofs.YthcfjiapmigjiaaDoor
