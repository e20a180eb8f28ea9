/- slices.DeleteFunc and slices.Insert at nodes, as the program uses them. -/
import Derived.Test.YtlhhplhciiobfaaDoorGet
import Derived.Test.YtlhhplhciiobfaaDoorMem
import Derived.Test.YtlhhplhciiobfaaDoorSub
namespace Go.Proofs.YtlhhplhciiobfaaDoor
open Go.RowKit
set_option linter.unusedVariables false
set_option linter.unusedSimpArgs false
set_option maxRecDepth 20000

theorem zeroN (w : World) : (zeroValue 73).run Tryd.prog w = .ok (.agg #[.string ByteArray.empty, .int .i64 0, .int .i64 0]) w := by kernel_rfl
theorem add_at (b o j : Nat) : (⟨b, o, none⟩ : Addr).add j = ⟨b, o + j, none⟩ := by unfold Addr.add; by_cases h : j = 0 <;> simp [h]
theorem drop_cells (l : List Nod) (i : Nat) (hi : i ≤ l.length) : (l.drop i).flatMap encN = (l.flatMap encN).drop (i * 3) := by
  have e : l.flatMap encN = (l.take i).flatMap encN ++ (l.drop i).flatMap encN := by rw [← List.flatMap_append, List.take_append_drop]
  have hl : ((l.take i).flatMap encN).length = i * 3 := by rw [flat_len encN_len, List.length_take]; congr 1; omega
  rw [e]; exact (List.drop_left' hl).symm
theorem take_cells (l : List Nod) (i : Nat) (hi : i ≤ l.length) : (l.take i).flatMap encN = (l.flatMap encN).take (i * 3) := by
  have e : l.flatMap encN = (l.take i).flatMap encN ++ (l.drop i).flatMap encN := by rw [← List.flatMap_append, List.take_append_drop]
  have hl : ((l.take i).flatMap encN).length = i * 3 := by rw [flat_len encN_len, List.length_take]; congr 1; omega
  rw [e]; exact (List.take_left' hl).symm
theorem set_cells (l : List Nod) (i : Nat) (q : Nod) (hi : i < l.length) : (((l.flatMap encN).set (i * 3) (.string q.p)).set (i * 3 + 1) (.int .i64 q.x)).set (i * 3 + 2) (.int .i64 q.y) = (l.set i q).flatMap encN := by
  have e : l = l.take i ++ l[i] :: l.drop (i + 1) := by simp
  have hl : ((l.take i).flatMap encN).length = i * 3 := by rw [flat_len encN_len, List.length_take]; congr 1; omega
  have e1 : l.flatMap encN = (l.take i).flatMap encN ++ .string l[i].p :: .int .i64 l[i].x :: .int .i64 l[i].y :: (l.drop (i + 1)).flatMap encN := by
    conv => lhs; rw [e]
    rw [List.flatMap_append, List.flatMap_cons]; rfl
  rw [e1, Go.Proofs.YtlhhplhciiobfaaDoor.set3 _ _ _ hl, List.set_eq_take_append_cons_drop, if_pos hi, List.flatMap_append, List.flatMap_cons]
  rfl
theorem del_snoc {l : List Nod} {j : Nat} (hj : j < l.length) (s : List UInt8) : delL (l.take (j + 1)) s = delL (l.take j) s ++ (if l[j].s = s then [] else [l[j]]) := by
  unfold delL
  rw [take_snoc' l j hj, List.filter_append]
  congr 1
  by_cases h : l[j].s = s <;> simp [h]
theorem del_none {l : List Nod} {s : List UInt8} (h : posN l s = none) : delL l s = l := by
  unfold delL
  rw [List.filter_eq_self]
  intro n hn
  have := List.findIdx?_eq_none_iff.1 h n hn
  simpa using this
theorem del_first {l : List Nod} {s : List UInt8} {k : Nat} (h : posN l s = some k) : ∃ hk : k < l.length, delL (l.take (k + 1)) s = l.take k := by
  obtain ⟨hk, h1, h2⟩ := List.findIdx?_eq_some_iff_getElem.1 h
  refine ⟨hk, ?_⟩
  rw [del_snoc hk, if_pos (by simpa using h1), List.append_nil]
  unfold delL
  rw [List.filter_eq_self]
  intro n hn
  obtain ⟨j, hj, rfl⟩ := List.mem_take_iff_getElem.1 hn
  have := h2 j (by omega)
  simpa using this

theorem putTest_at (g : Nat) (s : ByteArray) (q : Nod) (wr : World) (hcr : wr.cell? ⟨g, 0, none⟩ = some (.string s)) :
    Calls Tryd.prog 144 #[.agg #[.string q.p, .int .i64 q.x, .int .i64 q.y], .pointer (some ⟨g, 0, none⟩)] wr fun e w' => e = .returned (.bool (decide (q.s = s.data.toList))) ∧ Below wr.heap.size wr w' := by
  have HE := Lib.hid (show (q.p.toList == s.toList) = decide (q.s = s.data.toList) by rw [toList_is rfl, toList_is rfl]; unfold Nod.s; rw [Bool.eq_iff_iff]; simp)
  have hcr2 : (wr.alloc (.cells #[.string q.p, .int .i64 q.x, .int .i64 q.y] 73)).cell? ⟨g, 0, none⟩ = some (.string s) := cell_later ((Below.refl wr.heap.size wr).alloc (Nat.le_refl _) _) hcr
  go_enter Tryd.func144, Tryd.ntmps144
  go_wp2_with fail
  go_ret
  exact ⟨ret_bool HE.out, below_alloc (Below.refl _ _) _⟩

/-- How far the deletion has come. -/
def DelI (l : List Nod) (s : List UInt8) (rs : List Nod) (i j : Nat) : Prop := rs.length = l.length ∧ rs.take i = delL (l.take j) s ∧ rs.drop j = l.drop j ∧ i = (delL (l.take j) s).length ∧ i < j
theorem DelI.skip {l rs : List Nod} {s : List UInt8} {i j : Nat} (h : DelI l s rs i j) (hj : j < l.length) (hd : l[j].s = s) : DelI l s rs i (j + 1) := by
  obtain ⟨h1, h2, h3, h4, h5⟩ := h
  refine ⟨h1, ?_, ?_, ?_, by omega⟩
  · rw [del_snoc hj, if_pos hd, List.append_nil]; exact h2
  · have := congrArg (List.drop 1) h3
    simpa [List.drop_drop, Nat.add_comm] using this
  · rw [del_snoc hj, if_pos hd, List.append_nil]; exact h4
theorem DelI.keep {l rs : List Nod} {s : List UInt8} {i j : Nat} (h : DelI l s rs i j) (hj : j < l.length) (hd : l[j].s ≠ s) : DelI l s (rs.set i l[j]) (i + 1) (j + 1) := by
  obtain ⟨h1, h2, h3, h4, h5⟩ := h
  have hir : i < rs.length := by omega
  refine ⟨by rw [List.length_set]; exact h1, ?_, ?_, ?_, by omega⟩
  · rw [del_snoc hj, if_neg hd, ← h2]
    rw [List.set_eq_take_append_cons_drop, if_pos hir]
    rw [List.take_append, List.take_take, List.length_take]
    rw [Nat.min_eq_right (by omega), Nat.min_eq_left (by omega)]
    simp
  · rw [List.drop_set, if_pos (by omega)]
    have := congrArg (List.drop 1) h3
    simpa [List.drop_drop, Nat.add_comm] using this
  · rw [del_snoc hj, if_neg hd, List.length_append, ← h4]; rfl
theorem DelI.get {l rs : List Nod} {s : List UInt8} {i j : Nat} (h : DelI l s rs i j) (hj : j < l.length) : ∃ hr : j < rs.length, rs[j] = l[j] := by
  obtain ⟨h1, _, h3, _⟩ := h
  refine ⟨by omega, ?_⟩
  have a1 := List.drop_eq_getElem_cons (l := rs) (i := j) (by omega)
  have a2 := List.drop_eq_getElem_cons (l := l) (i := j) hj
  rw [h3, a2] at a1
  injection a1 with a1
  exact a1.symm

set_option maxHeartbeats 2000000 in
theorem delN_any (gp : Nat) (s : ByteArray) (A : Option Addr) (n cap : Nat) (l : List Nod) (w : World) (base : Nat) (hn : n ≤ 1100000) (hl : l.length = n) (ho : w.ownsRow base 73 3 (.slice A n cap) n (l.flatMap encN)) (hgp : gp < base) (hc : w.cell? ⟨gp, 0, none⟩ = some (.string s)) :
    Calls Tryd.prog 143 #[.slice A n cap, .func (.func 144) #[] #[.pointer (some ⟨gp, 0, none⟩)]] w fun e w' => e = .returned (.slice A (delL l s.data.toList).length cap) ∧ w'.ownsRow base 73 3 (.slice A (delL l s.data.toList).length cap) (delL l s.data.toList).length ((delL l s.data.toList).flatMap encN) ∧ w.grownBy w' (rowOf A n) := by
  obtain ⟨i0, hi, hz0, hz1, hz2⟩ := info_parts infoN
  have ha := own_at encN_len ho hl
  have HL := Lib.hid hl
  have hgw : gp < w.heap.size := World.block_lt_of_cell? w ⟨gp, 0, none⟩ hc
  have htest : ∀ q ∈ l, TestN 144 (.pointer (some ⟨gp, 0, none⟩)) (fun n => decide (n.s = s.data.toList)) q w := fun q _ wr hb => putTest_at gp s q wr ((hb.cell (p := ⟨gp, 0, none⟩) hgw).trans hc)
  have HT := Lib.hid htest
  obtain ⟨z, hz⟩ : ∃ z, posI l s.data.toList = z := ⟨_, rfl⟩
  have HZ := Lib.hid hz
  clear htest hl
  cases hp : posN l s.data.toList with
  | none =>
    have hzv : z = -1 := by rw [← hz]; exact posI_none hp
    have HD := Lib.hid (del_none hp)
    clear hz hp
    subst hzv
    go_enter Tryd.func143, Tryd.ntmps143
    go_wp2_with fail
    refine (indexN_any 144 (fun _ _ => rfl) (.pointer (some ⟨gp, 0, none⟩)) (fun n => decide (n.s = s.data.toList)) A n cap l _ (by omega) HL.out ha HT.out).mono ?_
    rw [idxI_pos, HZ.out]
    rintro e w1 ⟨rfl, hb1⟩
    have ho1 := own_belowS ho hb1
    go_wp2_with fail
    go_ret
    rw [HD.out, HL.out]
    exact ⟨rfl, ho1, only_of_below hb1 _⟩
  | some k0 =>
    have hzv : z = k0 := by rw [← hz]; exact posI_some hp
    obtain ⟨hk0, hdf⟩ := del_first hp
    have hk0n : k0 < n := by rw [← HL.out]; exact hk0
    have HST := Lib.hid (show DelI l s.data.toList l k0 (k0 + 1) from ⟨rfl, hdf.symm, rfl, by rw [hdf, List.length_take]; omega, by omega⟩)
    obtain ⟨A', c', hv, hnc, hcm, hA⟩ := own_form ho
    injection hv with hv1 _ hv2
    subst hv1
    subst hv2
    have hA4 := (hA (by omega)).1
    have hge := (hA (by omega)).2.1
    obtain ⟨b, hb⟩ : ∃ b, blk A = b := ⟨_, rfl⟩
    rw [hb] at hA4 hge
    clear hA hb hz hp hdf
    subst hA4
    subst hzv
    have hne1 : ((k0 : Int) == -1) = false := beq_eq_false_iff_ne.2 (by omega)
    go_enter Tryd.func143, Tryd.ntmps143
    go_wp2_with fail
    refine (indexN_any 144 (fun _ _ => rfl) (.pointer (some ⟨gp, 0, none⟩)) (fun n => decide (n.s = s.data.toList)) (some ⟨b, 0, none⟩) n cap l _ (by omega) HL.out ha HT.out).mono ?_
    rw [idxI_pos, HZ.out]
    rintro e w1 ⟨rfl, hb1⟩
    have ho1 := own_belowS ho hb1
    have hc1 : w1.cell? ⟨gp, 0, none⟩ = some (.string s) := (hb1.cell (p := ⟨gp, 0, none⟩) hgw).trans hc
    clear ha ho hc
    go_upto_region 5 with fail
    clear hne1
    go_loopw [5, 6] (fun u v wr => ∃ (i j : Nat) (rs : List Nod), u = .int .i64 i ∧ v = .int .i64 j ∧ j ≤ n ∧ i < j ∧ Hid (DelI l s.data.toList rs i j) ∧ wr.ownsRow base 73 3 (.slice (some ⟨b, 0, none⟩) n cap) n (rs.flatMap encN) ∧ wr.cell? ⟨gp, 0, none⟩ = some (.string s) ∧ Hid (w.grownBy wr (some b))) (fun _ v _ => n - (intOf v).toNat)
    case atStart => exact ⟨k0, k0 + 1, l, rfl, by go_num, by omega, by omega, HST, ho1, hc1, Lib.hid (only_of_below hb1 _)⟩
    case round =>
      clear ho1 hc1
      obtain ⟨i, j, rs, rfl, rfl, hj, hij, HI, hor, hcr, HG⟩ := hrel
      have HRL := Lib.hid (show rs.length = n from HI.out.1.trans HL.out)
      by_cases hlt : j < n
      · have hlj : j < l.length := by rw [HL.out]; exact hlt
        obtain ⟨hrj, hrq⟩ := HI.out.get hlj
        have hidx : ∀ W, (Instr.indexAt 29 (.slice (some ⟨b, 0, none⟩) n cap) (.int .i64 (j : Int))).run Tryd.prog W = .ok (.pointer (some ⟨b, j * 3, none⟩)) W := fun W => by
          have := run_index_any (c := cap) (A := some ⟨b, 0, none⟩) Tryd.underlying29 hi hz1 rfl hlt W
          simpa using this
        have hidi : ∀ W, (Instr.indexAt 29 (.slice (some ⟨b, 0, none⟩) n cap) (.int .i64 (i : Int))).run Tryd.prog W = .ok (.pointer (some ⟨b, i * 3, none⟩)) W := fun W => by
          have := run_index_any (c := cap) (A := some ⟨b, 0, none⟩) Tryd.underlying29 hi hz1 rfl (show i < n by omega) W
          simpa using this
        obtain ⟨q, hq⟩ : ∃ q, l[j] = q := ⟨_, rfl⟩
        have HQ := Lib.hid hq
        obtain ⟨c0, c1, c2⟩ := at3 (own_at encN_len hor HRL.out) hrj (hrq.trans hq)
        simp only [blk_some, off_some, Nat.zero_add] at c0 c1 c2
        have P0 := Blk.new wr 73 #[.string q.p, .int .i64 q.x, .int .i64 q.y]
        have ho0 := hor.alloc (.cells #[.string q.p, .int .i64 q.x, .int .i64 q.y] 73)
        have hg0 := World.grownBy_alloc wr (.cells #[.string q.p, .int .i64 q.x, .int .i64 q.y] 73) (some b)
        have hc0 : (wr.alloc (.cells #[.string q.p, .int .i64 q.x, .int .i64 q.y] 73)).cell? ⟨gp, 0, none⟩ = some (.string s) := cell_later ((Below.refl wr.heap.size wr).alloc (Nat.le_refl _) _) hcr
        obtain ⟨h, hh⟩ : ∃ h, wr.heap.size = h := ⟨_, rfl⟩
        obtain ⟨W0, hW0⟩ : ∃ W0, W0 = wr.alloc (.cells #[.string q.p, .int .i64 q.x, .int .i64 q.y] 73) := ⟨_, rfl⟩
        rw [hh, ← hW0] at P0
        rw [← hW0] at ho0 hg0 hc0
        clear hq hrq hrj hor hcr
        go_upto_region 8 with fail
        try rw [hh]
        rw [← hW0]
        clear hW0 hh c0 c1 c2
        obtain ⟨d0, d1, d2⟩ := blk3 P0
        obtain ⟨t, ht⟩ : ∃ t, decide (q.s = s.data.toList) = t := ⟨_, rfl⟩
        have HTT := Lib.hid ht
        clear ht
        go_wp2_with fail
        refine (putTest_at gp s q _ hc0).mono ?_
        rw [HTT.out]
        rintro e w2 ⟨rfl, hb2⟩
        have ho2 := own_belowS ho0 hb2
        have hc2 : w2.cell? ⟨gp, 0, none⟩ = some (.string s) := cell_later hb2 hc0
        have HG2 := Lib.hid (grown_two (grown_two HG.out hg0) (only_of_below hb2 (some b)))
        have P2 := P0.belowS hb2
        clear ho0 hc0 hg0 P0 d0 d1 d2
        cases t with
        | true =>
          have HN := Lib.hid (HI.out.skip hlj (by rw [HQ.out]; exact of_decide_eq_true HTT.out))
          go_wp2_with fail
          go_roundw
          case rel => exact ⟨i, j + 1, rs, rfl, by go_num, by omega, by omega, HN, ho2, hc2, HG2⟩
          case measure => simp [intOf]; omega
        | false =>
          have HN := Lib.hid (HI.out.keep hlj (by rw [HQ.out]; exact of_decide_eq_false HTT.out))
          obtain ⟨d0, d1, d2⟩ := blk3 P2
          have hlen : (rs.flatMap encN).length = n * 3 := ho2.1
          have HLEN := Lib.hid hlen
          have cellOf : ∀ r, r < 3 → ∃ v, w2.cell? ⟨b, i * 3 + r, none⟩ = some v := fun r hr => ⟨(rs.flatMap encN)[i * 3 + r]'(by rw [hlen]; omega), by rw [ho2.cellAt (i * 3 + r) (by omega)]; exact List.getElem?_eq_getElem _⟩
          obtain ⟨v0, e0⟩ := cellOf 0 (by omega)
          obtain ⟨v1, e1⟩ := cellOf 1 (by omega)
          obtain ⟨v2, e2⟩ := cellOf 2 (by omega)
          rw [Nat.add_zero] at e0
          have f0 := ho2.frozenAt (i * 3)
          have f1 := ho2.frozenAt (i * 3 + 1)
          have f2 := ho2.frozenAt (i * 3 + 2)
          obtain ⟨s0, g0⟩ := ho2.stored (i * 3) (.string q.p)
          obtain ⟨s1, g1⟩ := s0.stored (i * 3 + 1) (.int .i64 q.x)
          obtain ⟨s2, g2⟩ := s1.stored (i * 3 + 2) (.int .i64 q.y)
          rw [set_cells rs i q (by rw [HRL.out]; omega)] at s2
          have HS2 := Lib.hid s2
          have HG3 := Lib.hid (grown_two HG2.out (grown_two g0 (grown_two g1 g2)))
          have hcn : gp ≠ b := by omega
          have HC3 := Lib.hid (show (((w2.setCell ⟨b, i * 3, none⟩ (.string q.p)).setCell ⟨b, i * 3 + 1, none⟩ (.int .i64 q.x)).setCell ⟨b, i * 3 + 2, none⟩ (.int .i64 q.y)).cell? ⟨gp, 0, none⟩ = some (.string s) from
            (grown_two g0 (grown_two g1 g2)).cell (a := ⟨gp, 0, none⟩) hc2 (by simp; omega))
          clear hlen cellOf s0 s1 s2 g0 g1 g2 ho2 hc2 P2
          go_wp2_with fail
          go_roundw
          case rel =>
            have hq := HQ.out
            subst hq
            exact ⟨i + 1, j + 1, _, by go_num, by go_num, by omega, by omega, HN, HS2.out, HC3.out, HG3⟩
          case measure => simp [intOf]; omega
      · obtain rfl : n = j := by omega
        have HF := Lib.hid (show i = (delL l s.data.toList).length ∧ rs.take i = delL l s.data.toList by
          obtain ⟨_, h2, _, h4, _⟩ := HI.out
          rw [List.take_of_length_le (show l.length ≤ n by rw [HL.out]; exact Nat.le_refl _)] at h2 h4
          exact ⟨h4, h2⟩)
        have hsl : ∀ W, (Instr.slice 29 (.slice (some ⟨b, 0, none⟩) n cap) (some (.int .i64 (i : Int))) none none).run Tryd.prog W = .ok (.slice (some ⟨b, i * 3, none⟩) (n - i) (cap - i)) W := fun W => by
          have := run_slice_from Tryd.underlying29 hi hz1 (some ⟨b, 0, none⟩) n cap W i (by omega)
          have e : sub (some ⟨b, 0, none⟩) cap i 3 = some ⟨b, i * 3, none⟩ := by unfold sub; rw [if_neg (by omega), Option.map_some, add_at, Nat.zero_add]
          rwa [e] at this
        have hsl2 : ∀ W, (Instr.slice 29 (.slice (some ⟨b, 0, none⟩) n cap) none (some (.int .i64 (i : Int))) none).run Tryd.prog W = .ok (.slice (some ⟨b, 0, none⟩) i cap) W := fun W => run_slice_upto Tryd.underlying29 hi hz1 (some ⟨b, 0, none⟩) n cap W i (by omega)
        have hcl : ∀ ty, (Builtin.clear_ #[29] ty #[.slice (some ⟨b, i * 3, none⟩) (n - i) (cap - i)]).run Tryd.prog wr = .ok (.tuple #[]) (wr.setCells b (i * 3) (Builtin.zeroCells (Value.agg #[.string ByteArray.empty, .int .i64 0, .int .i64 0]).cells (n - i)).toList) := fun ty =>
          run_clear_k wr _ 73 ty _ 3 Tryd.underlying29 zeroN rfl (fun j => by
            have : j % 3 = 0 ∨ j % 3 = 1 ∨ j % 3 = 2 := by omega
            show (#[Value.string ByteArray.empty, .int .i64 0, .int .i64 0][j % 3]!).oneCell' = true
            rcases this with h | h | h <;> rw [h] <;> rfl) b (i * 3) (n - i) (cap - i) (by omega) (fun t ht => own_some hor _ (by omega)) (fun t ht => hor.frozenAt _)
        obtain ⟨Z, hZ⟩ : ∃ Z, Z = (Builtin.zeroCells (Value.agg #[.string ByteArray.empty, .int .i64 0, .int .i64 0]).cells (n - i)).toList := ⟨_, rfl⟩
        rw [← hZ] at hcl
        obtain ⟨h1, h2⟩ := own_setCells Z (i * 3) wr _ (own_take hor (show i ≤ n by omega))
        rw [setR_past _ _ _ (by rw [List.length_take, hor.1]; omega), ← take_cells rs i (by rw [HRL.out]; omega), HF.out.2] at h1
        have HO := Lib.hid h1
        have HG2 := Lib.hid (grown_two HG.out h2)
        clear hZ h1 h2 hor
        go_wp2_with fail
        go_ret
        rw [← HF.out.1]
        have := HO.out
        refine ⟨rfl, this, ?_⟩
        rw [rowOf_pos (by omega)]
        exact HG2.out
end Go.Proofs.YtlhhplhciiobfaaDoor
