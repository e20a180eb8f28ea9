/- Two neighbours of a log are exchanged, by the program. -/
import Derived.Test.YtkbebgpafjopnaaDoorSwapS
import Derived.Deep.DeepCutAuto
namespace Go.Proofs.YtkbebgpafjopnaaDoor
open Go.RowKit
set_option linter.unusedVariables false
set_option linter.unusedSimpArgs false
set_option maxRecDepth 20000

theorem swap_flat' (u v : List Cmd) (a b : Cmd) (k : Nat) (l : List Cmd) (hl : l = u ++ a :: b :: v) (hk : u.length = k) :
    ((((((((((l.flatMap encK).set (k * 5) (.string b.p)).set (k * 5 + 1) (.int .i64 b.x)).set (k * 5 + 2) (.int .i64 b.y)).set (k * 5 + 3) (.int .i64 b.z)).set (k * 5 + 4) (.int .i64 b.u)).set ((k + 1) * 5) (.string a.p)).set ((k + 1) * 5 + 1) (.int .i64 a.x)).set ((k + 1) * 5 + 2) (.int .i64 a.y)).set ((k + 1) * 5 + 3) (.int .i64 a.z)).set ((k + 1) * 5 + 4) (.int .i64 a.u) = (u ++ b :: a :: v).flatMap encK := by
  rw [hl]; exact swap_flat u v a b k hk
set_option maxHeartbeats 4000000 in
theorem implSwap_any (A : Option Addr) (n c : Nat) (l : List Cmd) (k : Int) (w : World) (hn : n ≤ 1100000) (hl : l.length = n) (hnc : n ≤ c) (ha : At encK 5 w A l) (hz : ∀ q ∈ l, q.p.size ≤ 1048576) (hm : MaxAt w) :
    Calls Tryd.prog 39 #[.slice A n c, .int .i64 k] w (SwapOf l k w) := by
  obtain ⟨i0, hi, hz0, hz1, hz2⟩ := info_parts infoK
  have HL := Lib.hid hl
  have HM := Lib.hid hm
  clear hl hm
  go_enter Tryd.func39, Tryd.ntmps39
  go_wp2_with fail
  refine (implOrderFits_any A n c l _ (by omega) HL.out hnc ha hz HM.out).mono ?_
  rintro e w1 ⟨b, rfl, hb, hb1⟩
  have HB := Lib.hid hb
  clear hb
  cases b with
  | false =>
    have HF := Lib.hid (show ¬ FitsP l l.length from fun h => by rw [HL.out] at h; have := HB.out.2 h; cases this)
    go_wp2_with fail
    refine bodyPost_ret (v := .tuple #[.slice none 0 0, .bool false]) (by simp [results, Tryd.results39, go_sem]) rfl (SwapOf.no (fun h => HF.out h.1) ?_ hb1)
    exact World.ownsRow_nil _ _ _ _
  | true =>
    have HF := Lib.hid (show FitsP l l.length from by rw [HL.out]; exact HB.out.1 (by first | rfl | trivial))
    have hwr : IntKind.i64.wrap ((n : Int) - 2) = (n : Int) - 2 := IntWalk.i64_in _ (by omega)
    by_cases hk : 0 ≤ k ∧ k + 2 ≤ (n : Int)
    case neg =>
      have HI := Lib.hid (show inB k 0 ((n : Int) - 2) = false by unfold inB; rw [decide_eq_false_iff_not]; omega)
      have HK := Lib.hid (show ¬ (0 ≤ k ∧ k + 2 ≤ (l.length : Int)) by rw [HL.out]; exact hk)
      clear hk
      go_wp2_with fail
      refine (implIn_any _ _ _ _).mono ?_
      rw [HI.out]
      rintro e w' ⟨rfl, rfl⟩
      go_wp2_with fail
      refine bodyPost_ret (v := .tuple #[.slice none 0 0, .bool false]) (by simp [results, Tryd.results39, go_sem]) rfl (SwapOf.no (fun h => HK.out h.2.1) ?_ hb1)
      exact World.ownsRow_nil _ _ _ _
    case pos =>
      have HI := Lib.hid (show inB k 0 ((n : Int) - 2) = true by unfold inB; rw [decide_eq_true_eq]; omega)
      obtain ⟨K, rfl⟩ := Int.eq_ofNat_of_zero_le hk.1
      have hK : K + 2 ≤ n := by omega
      clear hk
      have ha1 := ha.belowS hb1
      go_wp2_with fail
      refine (implIn_any _ _ _ _).mono ?_
      rw [HI.out]
      rintro e w' ⟨rfl, rfl⟩
      go_wp2_with fail
      refine (cloneLog_any A n c l _ hn HL.out ha1).mono ?_
      rintro e w3 ⟨⟨v3, rfl, ho4'⟩, hb3⟩
      have bw3 := below_step hb1 hb3
      have ho4 := own_mono ho4' hb1.size
      obtain ⟨A3, c3, rfl, h3c, h3m, hA3⟩ := own_form ho4
      have hA4 := (hA3 (by omega)).1
      have hge := (hA3 (by omega)).2.1
      obtain ⟨g, hg⟩ : ∃ g, blk A3 = g := ⟨_, rfl⟩
      rw [hg] at hA4 hge
      clear hA3 hg HI hwr ha1 ho4'
      subst hA4
      have at3 := own_at encK_len ho4 HL.out
      obtain ⟨u, a, b, v, hl, hu, hka, hkb⟩ := split_two l K (by rw [HL.out]; omega)
      have HS := Lib.hid (And.intro hl hu)
      have ea : l[K]'(by rw [HL.out]; omega) = a := by rw [List.getElem?_eq_getElem (by rw [HL.out]; omega)] at hka; injection hka
      have eb : l[K + 1]'(by rw [HL.out]; omega) = b := by rw [List.getElem?_eq_getElem (by rw [HL.out]; omega)] at hkb; injection hkb
      obtain ⟨a0, a1, a2, a3, a4⟩ := at5 at3 _ ea
      obtain ⟨b0, b1, b2, b3, b4⟩ := at5 at3 _ eb
      simp only [blk_some, off_some, Nat.zero_add] at a0 a1 a2 a3 a4 b0 b1 b2 b3 b4
      have hcast : (((K + 1 : Nat)) : Int) = (K : Int) + 1 := by omega
      have hi3 : ∀ W, (Instr.indexAt 24 (.slice (some ⟨g, 0, none⟩) n c3) (.int .i64 (K : Int))).run Tryd.prog W = .ok (.pointer (some ⟨g, K * 5, none⟩)) W := fun W => by
        have := run_index_any (c := c3) (A := some ⟨g, 0, none⟩) Tryd.underlying24 hi hz1 rfl (show K < n by omega) W
        simpa using this
      have hi4 : ∀ W, (Instr.indexAt 24 (.slice (some ⟨g, 0, none⟩) n c3) (.int .i64 ((K : Int) + 1))).run Tryd.prog W = .ok (.pointer (some ⟨g, (K + 1) * 5, none⟩)) W := fun W => by
        have := run_index_any (c := c3) (A := some ⟨g, 0, none⟩) Tryd.underlying24 hi hz1 rfl (show K + 1 < n by omega) W
        rw [hcast] at this
        simpa using this
      clear hka hkb ea eb hcast hl hu at3
      have hlen : (l.flatMap encK).length = n * 5 := by rw [flat_len encK_len, HL.out]
      have HLEN := Lib.hid hlen
      clear hlen
      have f0 := ho4.frozenAt (K * 5)
      have g0 := ho4.frozenAt ((K + 1) * 5)
      have f1 := ho4.frozenAt (K * 5 + 1)
      have g1 := ho4.frozenAt ((K + 1) * 5 + 1)
      have f2 := ho4.frozenAt (K * 5 + 2)
      have g2 := ho4.frozenAt ((K + 1) * 5 + 2)
      have f3 := ho4.frozenAt (K * 5 + 3)
      have g3 := ho4.frozenAt ((K + 1) * 5 + 3)
      have f4 := ho4.frozenAt (K * 5 + 4)
      have g4 := ho4.frozenAt ((K + 1) * 5 + 4)
      have s0 := (ho4.stored (K * 5) (.string b.p)).1
      have s1 := (s0.stored (K * 5 + 1) (.int .i64 b.x)).1
      have s2 := (s1.stored (K * 5 + 2) (.int .i64 b.y)).1
      have s3 := (s2.stored (K * 5 + 3) (.int .i64 b.z)).1
      have s4 := (s3.stored (K * 5 + 4) (.int .i64 b.u)).1
      have s5 := (s4.stored ((K + 1) * 5) (.string a.p)).1
      have s6 := (s5.stored ((K + 1) * 5 + 1) (.int .i64 a.x)).1
      have s7 := (s6.stored ((K + 1) * 5 + 2) (.int .i64 a.y)).1
      have s8 := (s7.stored ((K + 1) * 5 + 3) (.int .i64 a.z)).1
      have s9 := (s8.stored ((K + 1) * 5 + 4) (.int .i64 a.u)).1
      have HS9 := Lib.hid s9
      clear s0 s1 s2 s3 s4 s5 s6 s7 s8 s9
      obtain ⟨P, hP⟩ : ∃ P, K * 5 = P := ⟨_, rfl⟩
      obtain ⟨Q, hQ⟩ : ∃ Q, (K + 1) * 5 = Q := ⟨_, rfl⟩
      have hPQ : Q = P + 5 := by omega
      rw [hP] at hi3
      rw [hQ] at hi4
      rw [hP] at a0 f0
      rw [hQ] at b0 g0
      rw [hP] at a1 f1
      rw [hQ] at b1 g1
      rw [hP] at a2 f2
      rw [hQ] at b2 g2
      rw [hP] at a3 f3
      rw [hQ] at b3 g3
      rw [hP] at a4 f4
      rw [hQ] at b4 g4
      have n0 : ¬ (P = Q) := by omega
      have m0 : ¬ (Q = P) := by omega
      have n1 : ¬ (P = Q + 1) := by omega
      have m1 : ¬ (Q + 1 = P) := by omega
      have n2 : ¬ (P = Q + 2) := by omega
      have m2 : ¬ (Q + 2 = P) := by omega
      have n3 : ¬ (P = Q + 3) := by omega
      have m3 : ¬ (Q + 3 = P) := by omega
      have n4 : ¬ (P = Q + 4) := by omega
      have m4 : ¬ (Q + 4 = P) := by omega
      have n5 : ¬ (P + 1 = Q) := by omega
      have m5 : ¬ (Q = P + 1) := by omega
      have n6 : ¬ (P + 1 = Q + 1) := by omega
      have m6 : ¬ (Q + 1 = P + 1) := by omega
      have n7 : ¬ (P + 1 = Q + 2) := by omega
      have m7 : ¬ (Q + 2 = P + 1) := by omega
      have n8 : ¬ (P + 1 = Q + 3) := by omega
      have m8 : ¬ (Q + 3 = P + 1) := by omega
      have n9 : ¬ (P + 1 = Q + 4) := by omega
      have m9 : ¬ (Q + 4 = P + 1) := by omega
      have n10 : ¬ (P + 2 = Q) := by omega
      have m10 : ¬ (Q = P + 2) := by omega
      have n11 : ¬ (P + 2 = Q + 1) := by omega
      have m11 : ¬ (Q + 1 = P + 2) := by omega
      have n12 : ¬ (P + 2 = Q + 2) := by omega
      have m12 : ¬ (Q + 2 = P + 2) := by omega
      have n13 : ¬ (P + 2 = Q + 3) := by omega
      have m13 : ¬ (Q + 3 = P + 2) := by omega
      have n14 : ¬ (P + 2 = Q + 4) := by omega
      have m14 : ¬ (Q + 4 = P + 2) := by omega
      have n15 : ¬ (P + 3 = Q) := by omega
      have m15 : ¬ (Q = P + 3) := by omega
      have n16 : ¬ (P + 3 = Q + 1) := by omega
      have m16 : ¬ (Q + 1 = P + 3) := by omega
      have n17 : ¬ (P + 3 = Q + 2) := by omega
      have m17 : ¬ (Q + 2 = P + 3) := by omega
      have n18 : ¬ (P + 3 = Q + 3) := by omega
      have m18 : ¬ (Q + 3 = P + 3) := by omega
      have n19 : ¬ (P + 3 = Q + 4) := by omega
      have m19 : ¬ (Q + 4 = P + 3) := by omega
      have n20 : ¬ (P + 4 = Q) := by omega
      have m20 : ¬ (Q = P + 4) := by omega
      have n21 : ¬ (P + 4 = Q + 1) := by omega
      have m21 : ¬ (Q + 1 = P + 4) := by omega
      have n22 : ¬ (P + 4 = Q + 2) := by omega
      have m22 : ¬ (Q + 2 = P + 4) := by omega
      have n23 : ¬ (P + 4 = Q + 3) := by omega
      have m23 : ¬ (Q + 3 = P + 4) := by omega
      have n24 : ¬ (P + 4 = Q + 4) := by omega
      have m24 : ¬ (Q + 4 = P + 4) := by omega
      have HPQ := Lib.hid (And.intro hP hQ)
      clear hP hQ hPQ
      have hwk : IntKind.i64.wrap ((K : Int) + 1) = (K : Int) + 1 := IntWalk.i64_in _ (by omega)
      go_upto_region 4 with fail
      go_region
      obtain ⟨W2, hW2⟩ : ∃ W2, W2 = (((((((((w3.setCell ⟨g, P, none⟩ (.string b.p)).setCell ⟨g, P + 1, none⟩ (.int .i64 b.x)).setCell ⟨g, P + 2, none⟩ (.int .i64 b.y)).setCell ⟨g, P + 3, none⟩ (.int .i64 b.z)).setCell ⟨g, P + 4, none⟩ (.int .i64 b.u)).setCell ⟨g, Q, none⟩ (.string a.p)).setCell ⟨g, Q + 1, none⟩ (.int .i64 a.x)).setCell ⟨g, Q + 2, none⟩ (.int .i64 a.y)).setCell ⟨g, Q + 3, none⟩ (.int .i64 a.z)).setCell ⟨g, Q + 4, none⟩ (.int .i64 a.u) := ⟨_, rfl⟩
      have bw6 : Below w.heap.size w W2 := by rw [hW2]; exact below_set (below_set (below_set (below_set (below_set (below_set (below_set (below_set (below_set (below_set bw3 hge _) hge _) hge _) hge _) hge _) hge _) hge _) hge _) hge _) hge _
      have ho6 := HS9.out
      rw [swap_flat' u v a b K l HS.out.1 HS.out.2, HPQ.out.1, HPQ.out.2, ← hW2] at ho6
      rw [← hW2]
      obtain ⟨Wd, hWd⟩ : ∃ Wd, Wd = W2.drew := ⟨_, rfl⟩
      have bw6d : Below w.heap.size w Wd := by rw [hWd]; exact bw6.drew
      have ho6d : Wd.ownsRow w.heap.size 41 5 (.slice (some ⟨g, 0, none⟩) n c3) n ((u ++ b :: a :: v).flatMap encK) := by rw [hWd]; exact ho6
      rw [← hWd]
      clear hW2 hWd HS9 ho6 bw6 n0 m0 n1 m1 n2 m2 n3 m3 n4 m4 n5 m5 n6 m6 n7 m7 n8 m8 n9 m9 n10 m10 n11 m11 n12 m12 n13 m13 n14 m14 n15 m15 n16 m16 n17 m17 n18 m18 n19 m19 n20 m20 n21 m21 n22 m22 n23 m23 n24 m24 a0 b0 f0 g0 a1 b1 f1 g1 a2 b2 f2 g2 a3 b3 f3 g3 a4 b4 f4 g4 hwk HPQ
      have hsw : u ++ b :: a :: v = swapL l K := by
        rw [HS.out.1]
        have h2 := HS.out.2
        subst h2
        rw [swapL_split]
      rw [hsw] at ho6d
      have hKl : K + 1 < l.length := by rw [HL.out]; omega
      have hsl : (swapL l K).length = n := by rw [(swap_perm l K hKl).length_eq, HL.out]
      have hsz : ∀ q ∈ swapL l K, q.p.size ≤ 1048576 := fun q hq => hz q ((swap_perm l K hKl).mem_iff.1 hq)
      have HSL := Lib.hid hsl
      have HKL := Lib.hid hKl
      have at6 := own_at encK_len ho6d hsl
      have HO6 := Lib.hid ho6d
      have HM6 := Lib.hid (HM.out.belowS bw6d)
      clear hsl hsw hi3 hi4 ho6d hKl
      go_wp2_with fail
      refine (implOrderFits_any _ n c3 (swapL l K) _ (by omega) HSL.out (by omega) at6 hsz HM6.out).mono ?_
      rintro e w7 ⟨r, rfl, hr, hb7⟩
      have bw7 := below_step bw6d hb7
      have HR := Lib.hid (hr.trans (show FitsP (swapL l K) n ↔ PossP (swapL l K) n from by have := fits_swap HKL.out HF.out; rwa [HSL.out] at this))
      have ho7 := own_belowS HO6.out hb7
      clear hr
      cases r with
      | false =>
        have HN := Lib.hid (show ¬ PossP (swapL l K) l.length from fun h => by have := HR.out.2 (by rw [← HL.out]; exact h); cases this)
        go_wp2_with fail
        refine bodyPost_ret (v := .tuple #[.slice none 0 0, .bool false]) (by simp [results, Tryd.results39, go_sem]) rfl (SwapOf.no (fun h => HN.out h.2.2) ?_ bw7)
        exact World.ownsRow_nil _ _ _ _
      | true =>
        have HN := Lib.hid (show PossP (swapL l K) l.length from by have := HR.out.1 (by first | rfl | trivial); rw [← HL.out] at this; exact this)
        go_wp2_with fail
        refine bodyPost_ret (v := .tuple #[.slice (some ⟨g, 0, none⟩) n c3, .bool true]) (by simp [results, Tryd.results39, go_sem]) rfl ?_
        refine ⟨swapL l K, true, some ⟨g, 0, none⟩, c3, by rw [HSL.out], .inl ⟨rfl, HF.out, ⟨by omega, by rw [HL.out]; omega⟩, rfl, HN.out⟩, by rw [HSL.out]; exact ho7, bw7⟩
end Go.Proofs.YtkbebgpafjopnaaDoor
