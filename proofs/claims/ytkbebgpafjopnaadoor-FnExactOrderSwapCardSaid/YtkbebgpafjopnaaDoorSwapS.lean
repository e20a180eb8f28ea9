/- Two neighbours of a log are exchanged, by the reference. -/
import Derived.Test.YtkbebgpafjopnaaDoorSwap
import Derived.Deep.DeepCutAuto
namespace Go.Proofs.YtkbebgpafjopnaaDoor
open Go.RowKit
set_option linter.unusedVariables false
set_option linter.unusedSimpArgs false
set_option maxRecDepth 20000

theorem blk_pos {A : Option Addr} {l : List Cmd} {w : World} (ha : At encK 5 w A l) (h : 0 < l.length) : blk A < w.heap.size := ha.lt h
set_option maxHeartbeats 4000000 in
theorem specSwap_any (A : Option Addr) (n c : Nat) (l : List Cmd) (k : Int) (w : World) (hn : n ≤ 1100000) (hl : l.length = n) (ha : At encK 5 w A l) (hz : ∀ q ∈ l, q.p.size ≤ 1048576) :
    Calls Tryd.prog 38 #[.slice A n c, .int .i64 k] w (SwapOf l k w) := by
  obtain ⟨i0, hi, hz0, hz1, hz2⟩ := info_parts infoK
  have HL := Lib.hid hl
  clear hl
  go_enter Tryd.func38, Tryd.ntmps38
  go_wp2_with fail
  refine (specOrderFits_any A n c l _ (by omega) HL.out ha hz).mono ?_
  rintro e w1 ⟨b, rfl, hb, hb1⟩
  have HB := Lib.hid hb
  clear hb
  cases b with
  | false =>
    have HF := Lib.hid (show ¬ FitsP l l.length from fun h => by rw [HL.out] at h; have := HB.out.2 h; cases this)
    go_wp2_with fail
    refine bodyPost_ret (v := .tuple #[.slice (some ⟨w1.heap.size, 0, none⟩) 0 0, .bool false]) (by simp [results, Tryd.results38, go_sem]) rfl (SwapOf.no (fun h => HF.out h.1) ?_ (below_alloc hb1 _))
    exact own_mono (World.ownsRow_lit (base := w1.heap.size) (e := 41) (size := 5) w1 #[] 0 (Nat.le_refl _) (by decide) rfl) hb1.size
  | true =>
    have HF := Lib.hid (show FitsP l l.length from by rw [HL.out]; exact HB.out.1 (by first | rfl | trivial))
    have hwr : IntKind.i64.wrap ((n : Int) - 2) = (n : Int) - 2 := IntWalk.i64_in _ (by omega)
    by_cases hk : 0 ≤ k ∧ k + 2 ≤ (n : Int)
    case neg =>
      have HI := Lib.hid (show inB k 0 ((n : Int) - 2) = false by unfold inB; rw [decide_eq_false_iff_not]; omega)
      have HK := Lib.hid (show ¬ (0 ≤ k ∧ k + 2 ≤ (l.length : Int)) by rw [HL.out]; exact hk)
      clear hk
      go_wp2_with fail
      refine (specIn_any _ _ _ _).mono ?_
      rw [HI.out]
      rintro e w' ⟨rfl, rfl⟩
      go_wp2_with fail
      refine bodyPost_ret (v := .tuple #[.slice (some ⟨w1.heap.size, 0, none⟩) 0 0, .bool false]) (by simp [results, Tryd.results38, go_sem]) rfl (SwapOf.no (fun h => HK.out h.2.1) ?_ (below_alloc hb1 _))
      exact own_mono (World.ownsRow_lit (base := w1.heap.size) (e := 41) (size := 5) w1 #[] 0 (Nat.le_refl _) (by decide) rfl) hb1.size
    case pos =>
      have HI := Lib.hid (show inB k 0 ((n : Int) - 2) = true by unfold inB; rw [decide_eq_true_eq]; omega)
      obtain ⟨K, rfl⟩ := Int.eq_ofNat_of_zero_le hk.1
      have hK : K + 2 ≤ n := by omega
      clear hk
      have ho0 := own_mono (World.ownsRow_lit (base := w1.heap.size) (e := 41) (size := 5) w1 #[] 0 (Nat.le_refl _) (by decide) rfl) hb1.size
      have ha1 := (ha.belowS hb1).belowS ((Below.refl w1.heap.size w1).alloc (Nat.le_refl _) (.cells #[] 41))
      go_wp2_with fail
      refine (specIn_any _ _ _ _).mono ?_
      rw [HI.out]
      rintro e w' ⟨rfl, rfl⟩
      have hsz : w.heap.size ≤ (w1.alloc (.cells #[] 41)).heap.size := by have := hb1.size; rw [World.size_alloc]; omega
      go_upto_region 4 with (at_builtin; refine wpList_append_at _ rfl _ _ 24 rfl w.heap.size 41 i0 (.agg #[.string ByteArray.empty, .int .i64 0, .int .i64 0, .int .i64 0, .int .i64 0]) 5 48 Tryd.underlying24 hi hz0 hz1 hz2 rfl (by decide) (.slice (some ⟨w1.heap.size, 0, none⟩) 0 0) 0 [] rfl ho0 encK_len encK_one A n c l rfl HL.out ha1 (by unfold maxLen; omega) (by omega) (by omega) ?_; intro v3 w3 ho3 hg3 hv3)
      have ho4 : w3.ownsRow w.heap.size 41 5 v3 n (l.flatMap encK) := by simpa using ho3
      have bw3 := below_app (below_alloc hb1 _) hg3 (own_ge ho0)
      obtain ⟨A3, c3, rfl, h3c, h3m, hA3⟩ := own_form ho4
      have hA4 := (hA3 (by omega)).1
      have hge := (hA3 (by omega)).2.1
      obtain ⟨g, hg⟩ : ∃ g, blk A3 = g := ⟨_, rfl⟩
      rw [hg] at hA4 hge
      clear hA3 hg ho3 hg3 hv3 ho0 ha1 hsz HI hwr
      subst hA4
      have at3 := ha.belowS bw3
      have hAl : blk A < w.heap.size := ha.lt (by rw [HL.out]; omega)
      have hne : blk A ≠ g := by omega
      obtain ⟨u, a, b, v, hl, hu, hka, hkb⟩ := split_two l K (by rw [HL.out]; omega)
      have HS := Lib.hid (And.intro hl hu)
      have HA := Lib.hid (ha.addr (by rw [HL.out]; omega))
      have ea : l[K]'(by rw [HL.out]; omega) = a := by rw [List.getElem?_eq_getElem (by rw [HL.out]; omega)] at hka; injection hka
      have eb : l[K + 1]'(by rw [HL.out]; omega) = b := by rw [List.getElem?_eq_getElem (by rw [HL.out]; omega)] at hkb; injection hkb
      obtain ⟨a0, a1, a2, a3, a4⟩ := at5 at3 _ ea
      obtain ⟨b0, b1, b2, b3, b4⟩ := at5 at3 _ eb
      have hcast : (((K + 1 : Nat)) : Int) = (K : Int) + 1 := by omega
      have hi1 : ∀ W, (Instr.indexAt 24 (.slice A n c) (.int .i64 ((K : Int) + 1))).run Tryd.prog W = .ok (.pointer (some ⟨blk A, off A + (K + 1) * 5, none⟩)) W := fun W => by
        have := run_index_any (c := c) Tryd.underlying24 hi hz1 HA.out (show K + 1 < n by omega) W
        rwa [hcast] at this
      have hi2 : ∀ W, (Instr.indexAt 24 (.slice A n c) (.int .i64 (K : Int))).run Tryd.prog W = .ok (.pointer (some ⟨blk A, off A + K * 5, none⟩)) W := fun W => run_index_any (c := c) Tryd.underlying24 hi hz1 HA.out (show K < n by omega) W
      have hi3 : ∀ W, (Instr.indexAt 24 (.slice (some ⟨g, 0, none⟩) n c3) (.int .i64 (K : Int))).run Tryd.prog W = .ok (.pointer (some ⟨g, K * 5, none⟩)) W := fun W => by
        have := run_index_any (c := c3) (A := some ⟨g, 0, none⟩) Tryd.underlying24 hi hz1 rfl (show K < n by omega) W
        simpa using this
      have hi4 : ∀ W, (Instr.indexAt 24 (.slice (some ⟨g, 0, none⟩) n c3) (.int .i64 ((K : Int) + 1))).run Tryd.prog W = .ok (.pointer (some ⟨g, (K + 1) * 5, none⟩)) W := fun W => by
        have := run_index_any (c := c3) (A := some ⟨g, 0, none⟩) Tryd.underlying24 hi hz1 rfl (show K + 1 < n by omega) W
        rw [hcast] at this
        simpa using this
      clear hka hkb ea eb hcast hl hu
      have hlen : (l.flatMap encK).length = n * 5 := by rw [flat_len encK_len, HL.out]
      have HLEN := Lib.hid hlen
      clear hlen
      have cellOf : ∀ r, r < 5 → ∃ x, w3.cell? ⟨g, K * 5 + r, none⟩ = some x := fun r hr => ⟨(l.flatMap encK)[K * 5 + r]'(by have := HLEN.out; omega), by rw [ho4.cellAt (K * 5 + r) (by have := HLEN.out; omega)]; exact List.getElem?_eq_getElem _⟩
      obtain ⟨x0, d0⟩ := cellOf 0 (by omega)
      obtain ⟨x1, d1⟩ := cellOf 1 (by omega)
      obtain ⟨x2, d2⟩ := cellOf 2 (by omega)
      obtain ⟨x3, d3⟩ := cellOf 3 (by omega)
      obtain ⟨x4, d4⟩ := cellOf 4 (by omega)
      rw [Nat.add_zero] at d0
      have f0 := ho4.frozenAt (K * 5)
      have f1 := ho4.frozenAt (K * 5 + 1)
      have f2 := ho4.frozenAt (K * 5 + 2)
      have f3 := ho4.frozenAt (K * 5 + 3)
      have f4 := ho4.frozenAt (K * 5 + 4)
      have s0 := (ho4.stored (K * 5) (.string b.p)).1
      have s1 := (s0.stored (K * 5 + 1) (.int .i64 b.x)).1
      have s2 := (s1.stored (K * 5 + 2) (.int .i64 b.y)).1
      have s3 := (s2.stored (K * 5 + 3) (.int .i64 b.z)).1
      have s4 := (s3.stored (K * 5 + 4) (.int .i64 b.u)).1
      have HS4 := Lib.hid s4
      clear cellOf s0 s1 s2 s3 s4
      go_upto_region 5 with fail
      obtain ⟨W1, hW1⟩ : ∃ W1, W1 = ((((w3.setCell ⟨g, K * 5, none⟩ (.string b.p)).setCell ⟨g, K * 5 + 1, none⟩ (.int .i64 b.x)).setCell ⟨g, K * 5 + 2, none⟩ (.int .i64 b.y)).setCell ⟨g, K * 5 + 3, none⟩ (.int .i64 b.z)).setCell ⟨g, K * 5 + 4, none⟩ (.int .i64 b.u) := ⟨_, rfl⟩
      have bw5 : Below w.heap.size w W1 := by rw [hW1]; exact below_set (below_set (below_set (below_set (below_set bw3 hge _) hge _) hge _) hge _) hge _
      have ho5 := HS4.out
      rw [← hW1] at ho5 ⊢
      clear hW1 a0 a1 a2 a3 a4 b0 b1 b2 b3 b4 d0 d1 d2 d3 d4 f0 f1 f2 f3 f4 HS4
      have ea : l[K]'(by rw [HL.out]; omega) = a := by
        have := HS.out.1
        subst this
        have h2 := HS.out.2
        subst h2
        simp
      obtain ⟨a0, a1, a2, a3, a4⟩ := at5 (ha.belowS bw5) _ ea
      clear ea
      have hl5 : ∀ r, r < 5 → (K + 1) * 5 + r < (((((l.flatMap encK).set (K * 5) (.string b.p)).set (K * 5 + 1) (.int .i64 b.x)).set (K * 5 + 2) (.int .i64 b.y)).set (K * 5 + 3) (.int .i64 b.z) |>.set (K * 5 + 4) (.int .i64 b.u)).length := fun r hr => by
        simp only [List.length_set]
        have := HLEN.out; omega
      have cellOf : ∀ r, r < 5 → ∃ x, W1.cell? ⟨g, (K + 1) * 5 + r, none⟩ = some x := fun r hr => ⟨_, (ho5.cellAt ((K + 1) * 5 + r) (by have := HLEN.out; omega)).trans (List.getElem?_eq_getElem (hl5 r hr))⟩
      obtain ⟨x0, d0⟩ := cellOf 0 (by omega)
      obtain ⟨x1, d1⟩ := cellOf 1 (by omega)
      obtain ⟨x2, d2⟩ := cellOf 2 (by omega)
      obtain ⟨x3, d3⟩ := cellOf 3 (by omega)
      obtain ⟨x4, d4⟩ := cellOf 4 (by omega)
      rw [Nat.add_zero] at d0
      have f0 := ho5.frozenAt ((K + 1) * 5)
      have f1 := ho5.frozenAt ((K + 1) * 5 + 1)
      have f2 := ho5.frozenAt ((K + 1) * 5 + 2)
      have f3 := ho5.frozenAt ((K + 1) * 5 + 3)
      have f4 := ho5.frozenAt ((K + 1) * 5 + 4)
      have s0 := (ho5.stored ((K + 1) * 5) (.string a.p)).1
      have s1 := (s0.stored ((K + 1) * 5 + 1) (.int .i64 a.x)).1
      have s2 := (s1.stored ((K + 1) * 5 + 2) (.int .i64 a.y)).1
      have s3 := (s2.stored ((K + 1) * 5 + 3) (.int .i64 a.z)).1
      have s4 := (s3.stored ((K + 1) * 5 + 4) (.int .i64 a.u)).1
      have HS4 := Lib.hid s4
      clear cellOf s0 s1 s2 s3 s4 hl5 ho5
      go_upto_region 6 with fail
      obtain ⟨W2, hW2⟩ : ∃ W2, W2 = ((((W1.setCell ⟨g, (K + 1) * 5, none⟩ (.string a.p)).setCell ⟨g, (K + 1) * 5 + 1, none⟩ (.int .i64 a.x)).setCell ⟨g, (K + 1) * 5 + 2, none⟩ (.int .i64 a.y)).setCell ⟨g, (K + 1) * 5 + 3, none⟩ (.int .i64 a.z)).setCell ⟨g, (K + 1) * 5 + 4, none⟩ (.int .i64 a.u) := ⟨_, rfl⟩
      have bw6 : Below w.heap.size w W2 := by rw [hW2]; exact below_set (below_set (below_set (below_set (below_set bw5 hge _) hge _) hge _) hge _) hge _
      have ho6 := HS4.out
      rw [← hW2] at ho6 ⊢
      clear hW2 a0 a1 a2 a3 a4 d0 d1 d2 d3 d4 f0 f1 f2 f3 f4 HS4
      have hsw : u ++ b :: a :: v = swapL l K := by
        rw [HS.out.1]
        have h2 := HS.out.2
        subst h2
        rw [swapL_split]
      rw [HS.out.1, swap_flat u v a b K HS.out.2, hsw] at ho6
      have hsl : (swapL l K).length = n := by rw [(swap_perm l K (by rw [HL.out]; omega)).length_eq, HL.out]
      have hsz : ∀ q ∈ swapL l K, q.p.size ≤ 1048576 := fun q hq => hz q ((swap_perm l K (by rw [HL.out]; omega)).mem_iff.1 hq)
      have HSL := Lib.hid hsl
      have at6 := own_at encK_len ho6 hsl
      have HO6 := Lib.hid ho6
      clear hsl ho6 hsw hi1 hi2 hi3 hi4
      go_wp2_with fail
      refine (specFits_any _ n c3 (swapL l K) _ (by omega) HSL.out at6 hsz).mono ?_
      rintro e w7 ⟨r, rfl, hr, hb7⟩
      have bw7 := below_step bw6 hb7
      have HR := Lib.hid hr
      have ho7 := own_belowS HO6.out hb7
      clear hr
      cases r with
      | false =>
        have HN := Lib.hid (show ¬ PossP (swapL l K) l.length from fun h => by rw [HL.out] at h; have := HR.out.2 h; cases this)
        go_wp2_with fail
        refine bodyPost_ret (v := .tuple #[.slice (some ⟨w7.heap.size, 0, none⟩) 0 0, .bool false]) (by simp [results, Tryd.results38, go_sem]) rfl (SwapOf.no (fun h => HN.out h.2.2) ?_ (below_alloc bw7 _))
        exact own_mono (World.ownsRow_lit (base := w7.heap.size) (e := 41) (size := 5) w7 #[] 0 (Nat.le_refl _) (by decide) rfl) bw7.size
      | true =>
        have HN := Lib.hid (show PossP (swapL l K) l.length from by rw [HL.out]; exact HR.out.1 (by first | rfl | trivial))
        go_wp2_with fail
        refine bodyPost_ret (v := .tuple #[.slice (some ⟨g, 0, none⟩) n c3, .bool true]) (by simp [results, Tryd.results38, go_sem]) rfl ?_
        refine ⟨swapL l K, true, some ⟨g, 0, none⟩, c3, by rw [HSL.out], .inl ⟨rfl, HF.out, ⟨by omega, by rw [HL.out]; omega⟩, rfl, HN.out⟩, by rw [HSL.out]; exact ho7, bw7⟩
end Go.Proofs.YtkbebgpafjopnaaDoor
