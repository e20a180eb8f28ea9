/- The commands that copy what lies at a path, by both texts. -/
import Derived.Test.YtlhhplhciiobfaaDoorApplyL
import Derived.Test.YtlhhplhciiobfaaDoorCopyL
import Derived.Test.YtlhhplhciiobfaaDoorPath4
import Derived.Deep.AppendLies
import Derived.Deep.RegionLaw
namespace Go.Proofs.YtlhhplhciiobfaaDoor
open Go.RowKit
set_option linter.unusedVariables false
set_option linter.unusedSimpArgs false
set_option maxRecDepth 20000

theorem path_small {s : ByteArray} (h : pathB s.data.toList = true) : s.size ≤ 8 := by rw [Lib.size_eq]; exact (path_len h).2.1
theorem copyL_small {l : List Nod} {f t : ByteArray} (hl : TreeP l) (ht : pathB t.data.toList = true) : ∀ q ∈ copyL l f t, q.p.size ≤ 1048576 := fun q hq => by
  have h1 := copyL_size (m := 8) (fun n hn => (hl.ok hn).size) q hq
  have h2 := path_small ht
  omega
theorem TreeP.pos_lt {l : List Nod} (h : TreeP l) {s : List UInt8} (hs : s ≠ [47]) : decide (posI l s < 0) = decide ((getN l s).1 = 0) := by
  have hg := h.get_pos hs
  cases hp : posN l s with
  | none =>
    rw [posI_none hp]
    have : (getN l s).1 = 0 := by
      by_cases h0 : (getN l s).1 = 0
      · exact h0
      · exact absurd hp (hg.1 h0)
    simp [this]
  | some k =>
    rw [posI_some hp]
    have h0 : (getN l s).1 ≠ 0 := hg.2 (by rw [hp]; simp)
    simp [h0]
    
set_option maxHeartbeats 2000000 in
theorem specCopy_any (A : Option Addr) (n c : Nat) (l : List Nod) (f t : ByteArray) (w : World) (hn : n ≤ 1048576) (hl : l.length = n) (ha : At encN 3 w A l) (hz : ∀ q ∈ l, q.p.size ≤ 1048576) (hf : f.data.toList ≠ [47]) (hfs : f.size ≤ 1048576) (hts : t.size ≤ 1048576) :
    Calls Tryd.prog 66 #[.slice A n c, .string f, .string t] w (OutR encK 5 35 (fun ys => ys = copyL l f t) w) := by
  obtain ⟨n0, hin, hzn0, hzn1, hzn2⟩ := info_parts infoN
  obtain ⟨k0, hki, hkz0, hkz1, hkz2⟩ := info_parts infoK
  have HL := Lib.hid hl
  have HF := Lib.hid hf
  clear hl hf
  go_enter Tryd.func66, Tryd.ntmps66
  go_wp2_with fail
  go_loopw [7, 8] (fun v i wr => ∃ (k : Nat) (ys : List Cmd), i = .int .i64 k ∧ k ≤ n ∧ ys.length ≤ k ∧ Hid (ys = copyL (l.take k) f t) ∧ wr.ownsRow w.heap.size 35 5 v ys.length (ys.flatMap encK) ∧ Below w.heap.size w wr) (fun _ i _ => n - (intOf i).toNat)
  case atStart => exact ⟨0, [], rfl, Nat.zero_le _, Nat.le_refl _, Lib.hid (by simp [copyL]), World.ownsRow_lit (base := w.heap.size) (e := 35) (size := 5) w #[] 0 (Nat.le_refl _) (by decide) rfl, (Below.refl _ _).alloc (Nat.le_refl _) _⟩
  case round =>
    obtain ⟨k, ys, rfl, hk, hys, HY, ho, hbw⟩ := hrel
    by_cases hlt : k < n
    · have hlk : k < l.length := by rw [HL.out]; exact hlt
      have hidx := fun W => run_index_any (c := c) Tryd.underlying29 hin hzn1 (ha.addr (by omega)) hlt W
      obtain ⟨q, hq⟩ : ∃ q, l[k] = q := ⟨_, rfl⟩
      have HQ := Lib.hid hq
      have hqz := hz q (hq ▸ List.getElem_mem _)
      obtain ⟨c0, c1, c2⟩ := at3 (ha.belowS hbw) hlk hq
      clear hq
      obtain ⟨r1, hr1⟩ : ∃ r1, decide (q.p.data.toList = f.data.toList) = r1 := ⟨_, rfl⟩
      have HR1 := Lib.hid hr1
      have hl1 : (q.p.toList == f.toList) = r1 := by rw [toList_is rfl, toList_is rfl, ← hr1, Bool.eq_iff_iff]; simp
      clear hr1
      cases r1 with
      | true =>
        have HS := Lib.hid (show selB f.data.toList q = true from by unfold selB; rw [show decide (q.s = f.data.toList) = true from HR1.out]; rfl)
        have HN := Lib.hid (show ys ++ [copyK f t q] = copyL (l.take (k + 1)) f t by rw [copyL_snoc hlk, HQ.out, HS.out, ← HY.out]; rfl)
        have hfq : f.size ≤ q.p.size := sel_len (n := q.p) (x := q.x) (y := q.y) HF.out HS.out
        have hod0 := ho
        go_upto_region 6 with fail
        have bwd : Below w.heap.size w wr.drew := hbw.drew
        have hod := own_belowS ho (Below.refl wr.heap.size wr).drew
        have hoP := hod.alloc (.cells #[.string (t ++ q.p.extract f.size q.p.size), .int .i64 0, .int .i64 0, .int .i64 q.x, .int .i64 q.y] 35)
        have hnP := at_new (enc := encK) wr.drew encK_len [copyK f t q] 35 #[.string (t ++ q.p.extract f.size q.p.size), .int .i64 0, .int .i64 0, .int .i64 q.x, .int .i64 q.y] rfl (by unfold maxLen; simp)
        have hsw := bwd.size
        have hszd : w.heap.size ≤ (wr.drew.alloc (.cells #[.string (t ++ q.p.extract f.size q.p.size), .int .i64 0, .int .i64 0, .int .i64 q.x, .int .i64 q.y] 35)).heap.size := by rw [World.size_alloc]; omega
        have hq1 : ¬ (9223372036854775807 < t.size + (q.p.size - f.size)) := by omega
        have hml : ys.length + 1 ≤ maxLen := by unfold maxLen; omega
        have hbl : (ys.length + 1) * 48 ≤ 140737488355328 := by omega
        go_region_law (refine step_append_at _ (by exact rfl) (.tmp 32) (.tmp 49) 43 (by exact rfl) w.heap.size 35 k0 (.agg #[.string ByteArray.empty, .int .i64 0, .int .i64 0, .int .i64 0, .int .i64 0]) 5 48 Tryd.underlying43 hki hkz0 hkz1 hkz2 rfl (by decide) u7 ys.length _ (by go_simp) hoP encK_len encK_one (some ⟨wr.heap.size, 0, none⟩) 1 1 [copyK f t q] (by go_simp) rfl hnP hml hbl hszd ?_; intro v3 w3 ho3 hg3 hv3)
        all_goals
          go_wp2_with fail
          go_roundw
          case rel => exact ⟨k + 1, ys ++ [copyK f t q], by go_num, by omega, by simp; omega, HN, by rw [List.length_append, List.flatMap_append]; exact ho3, below_app (w := w) (below_alloc bwd _) hg3 (own_ge hod0)⟩
          case measure => simp [intOf]; omega
      | false =>
        obtain ⟨u, hu⟩ : ∃ u, underL f.data.toList q.p.data.toList = u := ⟨_, rfl⟩
        have HU := Lib.hid hu
        clear hu
        go_wp2_with fail
        refine (specUnder_any f q.p _ hfs hqz).mono ?_
        rw [HU.out]
        rintro e w' ⟨rfl, rfl⟩
        have HSU := Lib.hid (show selB f.data.toList q = u by unfold selB; rw [show decide (q.s = f.data.toList) = false from HR1.out, show underL f.data.toList q.s = u from HU.out]; rfl)
        cases u with
        | false =>
          have HN := Lib.hid (show ys = copyL (l.take (k + 1)) f t by rw [copyL_snoc hlk, HQ.out, HSU.out, ← HY.out]; simp)
          go_wp2_with fail
          go_roundw
          case rel => exact ⟨k + 1, ys, by go_num, by omega, by omega, HN, ho, hbw⟩
          case measure => simp [intOf]; omega
        | true =>
          have HS := Lib.hid (show selB f.data.toList q = true from HSU.out)
          have HN := Lib.hid (show ys ++ [copyK f t q] = copyL (l.take (k + 1)) f t by rw [copyL_snoc hlk, HQ.out, HS.out, ← HY.out]; rfl)
          have hfq : f.size ≤ q.p.size := sel_len (n := q.p) (x := q.x) (y := q.y) HF.out HS.out
          have hod0 := ho
          go_upto_region 6 with fail
          have bwd : Below w.heap.size w wr.drew := hbw.drew
          have hod := own_belowS ho (Below.refl wr.heap.size wr).drew
          have hoP := hod.alloc (.cells #[.string (t ++ q.p.extract f.size q.p.size), .int .i64 0, .int .i64 0, .int .i64 q.x, .int .i64 q.y] 35)
          have hnP := at_new (enc := encK) wr.drew encK_len [copyK f t q] 35 #[.string (t ++ q.p.extract f.size q.p.size), .int .i64 0, .int .i64 0, .int .i64 q.x, .int .i64 q.y] rfl (by unfold maxLen; simp)
          have hsw := bwd.size
          have hszd : w.heap.size ≤ (wr.drew.alloc (.cells #[.string (t ++ q.p.extract f.size q.p.size), .int .i64 0, .int .i64 0, .int .i64 q.x, .int .i64 q.y] 35)).heap.size := by rw [World.size_alloc]; omega
          have hq1 : ¬ (9223372036854775807 < t.size + (q.p.size - f.size)) := by omega
          have hml : ys.length + 1 ≤ maxLen := by unfold maxLen; omega
          have hbl : (ys.length + 1) * 48 ≤ 140737488355328 := by omega
          go_region_law (refine step_append_at _ (by exact rfl) (.tmp 32) (.tmp 49) 43 (by exact rfl) w.heap.size 35 k0 (.agg #[.string ByteArray.empty, .int .i64 0, .int .i64 0, .int .i64 0, .int .i64 0]) 5 48 Tryd.underlying43 hki hkz0 hkz1 hkz2 rfl (by decide) u7 ys.length _ (by go_simp) hoP encK_len encK_one (some ⟨wr.heap.size, 0, none⟩) 1 1 [copyK f t q] (by go_simp) rfl hnP hml hbl hszd ?_; intro v3 w3 ho3 hg3 hv3)
          all_goals
            go_wp2_with fail
            go_roundw
            case rel => exact ⟨k + 1, ys ++ [copyK f t q], by go_num, by omega, by simp; omega, HN, by rw [List.length_append, List.flatMap_append]; exact ho3, below_app (w := w) (below_alloc bwd _) hg3 (own_ge hod0)⟩
            case measure => simp [intOf]; omega
    · obtain rfl : n = k := by omega
      have HN := Lib.hid (show ys = copyL l f t by rw [HY.out, List.take_of_length_le (by rw [HL.out]; exact Nat.le_refl _)])
      go_wp2_with fail
      go_ret
      exact OutR.of rfl HN.out ho hbw

set_option maxHeartbeats 2000000 in
theorem specCopyAll_any (A : Option Addr) (n c : Nat) (l : List Nod) (f t : ByteArray) (w : World) (hn : n ≤ 1048576) (hl : l.length = n) (ha : At encN 3 w A l) (hz : ∀ q ∈ l, q.p.size ≤ 1048576) (hfs : f.size ≤ 1048576) (hts : t.size ≤ 1048576) :
    Calls Tryd.prog 31 #[.slice A n c, .string f, .string t] w (OutB encK 5 35 (CopyR l f t) w) := by
  have HL := Lib.hid hl
  clear hl
  obtain ⟨D, hD⟩ : ∃ D, depthL f.data.toList = D := ⟨_, rfl⟩
  have HD := Lib.hid hD
  obtain ⟨E, hE⟩ : ∃ E, depthL t.data.toList = E := ⟨_, rfl⟩
  have HE := Lib.hid hE
  obtain ⟨⟨gx, gy⟩, hget⟩ : ∃ g, getN l f.data.toList = g := ⟨_, rfl⟩
  have HG := Lib.hid hget
  obtain ⟨u, hu⟩ : ∃ u, underL f.data.toList t.data.toList = u := ⟨_, rfl⟩
  have HU := Lib.hid hu
  clear hD hE hget hu
  go_enter Tryd.func31, Tryd.ntmps31
  go_wp2_with fail
  refine (specTree_any A n c l _ (by omega) HL.out ha hz).mono ?_
  rintro e w1 ⟨b, rfl, hb', hb1⟩
  have HB := Lib.hid hb'
  clear hb'
  cases b with
  | false =>
    have HN := Lib.hid (show ¬ CopyG l f t from fun h => by have := HB.out.2 h.1; cases this)
    go_wp2_with fail
    refine bodyPost_ret (v := .tuple #[.slice (some ⟨w1.heap.size, 0, none⟩) 0 0, .bool false]) (by simp [results, Tryd.results31, go_sem]) rfl ?_
    exact OutB.lit (.inr ⟨HN.out, rfl, rfl⟩) hb1
  | true =>
    have HT := Lib.hid (HB.out.1 (by first | rfl | trivial))
    go_wp2_with fail
    refine (specDepth_any f _ hfs).mono ?_
    rw [HD.out]
    rintro e w2 ⟨rfl, hb2⟩
    have bw2 := below_step hb1 hb2
    by_cases hd : D < 1
    · have hd' : decide (D < 1) = true := decide_eq_true hd
      have HN := Lib.hid (show ¬ CopyG l f t from fun h => by have h1 := h.2.1; rw [HD.out] at h1; omega)
      go_wp2_with fail
      refine bodyPost_ret (v := .tuple #[.slice (some ⟨w2.heap.size, 0, none⟩) 0 0, .bool false]) (by simp [results, Tryd.results31, go_sem]) rfl ?_
      exact OutB.lit (.inr ⟨HN.out, rfl, rfl⟩) bw2
    have hd' : decide (D < 1) = false := decide_eq_false hd
    go_wp2_with fail
    refine (specDepth_any t _ hts).mono ?_
    rw [HE.out]
    rintro e w3 ⟨rfl, hb3⟩
    have bw3 := below_step bw2 hb3
    by_cases he : E < 1
    · have he' : decide (E < 1) = true := decide_eq_true he
      have HN := Lib.hid (show ¬ CopyG l f t from fun h => by have h1 := h.2.2.1; rw [HE.out] at h1; omega)
      go_wp2_with fail
      refine bodyPost_ret (v := .tuple #[.slice (some ⟨w3.heap.size, 0, none⟩) 0 0, .bool false]) (by simp [results, Tryd.results31, go_sem]) rfl ?_
      exact OutB.lit (.inr ⟨HN.out, rfl, rfl⟩) bw3
    have he' : decide (E < 1) = false := decide_eq_false he
    have HF47 := Lib.hid (depth_pos.1 (show 0 < depthL f.data.toList by rw [HD.out]; omega))
    have HT47 := Lib.hid (depth_pos.1 (show 0 < depthL t.data.toList by rw [HE.out]; omega))
    have hfl := fieldX
    go_wp2_with fail
    refine (specGet_any A n c l f _ (by omega) HL.out (ha.belowS bw3)).mono ?_
    rintro e w4 ⟨x', y', rfl, hget', hb4⟩
    obtain ⟨rfl, rfl⟩ := Prod.mk.inj (HG.out.symm.trans hget')
    have bw4 := below_step bw3 hb4
    clear hget'
    by_cases hg : gx = 0
    · have hg' : (gx == 0) = true := by rw [hg]; rfl
      have HX := Lib.hid hg
      clear hg
      have HN := Lib.hid (show ¬ CopyG l f t from fun h => by have h1 := h.2.2.2.1; rw [HG.out] at h1; exact h1 HX.out)
      go_wp2_with fail
      refine bodyPost_ret (v := .tuple #[.slice (some ⟨w4.heap.size, 0, none⟩) 0 0, .bool false]) (by simp [results, Tryd.results31, go_sem]) rfl ?_
      exact OutB.lit (.inr ⟨HN.out, rfl, rfl⟩) bw4
    have hg' : (gx == 0) = false := by simpa using hg
    have HX := Lib.hid hg
    clear hg
    obtain ⟨r1, hr1⟩ : ∃ r1, decide (f.data.toList = t.data.toList) = r1 := ⟨_, rfl⟩
    have HR1 := Lib.hid hr1
    have hl1 : (f.toList == t.toList) = r1 := by rw [toList_is rfl, toList_is rfl, ← hr1, Bool.eq_iff_iff]; simp
    clear hr1
    cases r1 with
    | true =>
      have HN := Lib.hid (show ¬ CopyG l f t from fun h => h.2.2.2.2.1 (of_decide_eq_true HR1.out))
      go_wp2_with fail
      refine bodyPost_ret (v := .tuple #[.slice (some ⟨w4.heap.size, 0, none⟩) 0 0, .bool false]) (by simp [results, Tryd.results31, go_sem]) rfl ?_
      exact OutB.lit (.inr ⟨HN.out, rfl, rfl⟩) bw4
    | false =>
      go_wp2_with fail
      refine (specUnder_any f t _ hfs hts).mono ?_
      rw [HU.out]
      rintro e w' ⟨rfl, rfl⟩
      cases u with
      | true =>
        have HN := Lib.hid (show ¬ CopyG l f t from fun h => by have h1 := h.2.2.2.2.2.1; rw [HU.out] at h1; cases h1)
        go_wp2_with fail
        refine bodyPost_ret (v := .tuple #[.slice (some ⟨w4.heap.size, 0, none⟩) 0 0, .bool false]) (by simp [results, Tryd.results31, go_sem]) rfl ?_
        exact OutB.lit (.inr ⟨HN.out, rfl, rfl⟩) bw4
      | false =>
        go_wp2_with fail
        refine (specCopy_any A n c l f t _ hn HL.out (ha.belowS bw4) hz HF47.out.2 hfs hts).mono ?_
        rintro e w5 ⟨A5, c5, ys, rfl, hys, ho5, hb5⟩
        have bw5 := below_step bw4 hb5
        have HY := Lib.hid (show ys = copyL l f t from hys)
        have at5 := own_at encK_len ho5 rfl
        have hy0 : ys.length ≤ n := by rw [HY.out, ← HL.out]; exact copyL_len _ _ _
        have hyz : ∀ q ∈ ys, q.p.size ≤ 1048576 := fun q hq => copyL_small HT.out HT47.out.1 q (by rw [← HY.out]; exact hq)
        have ho6 := own_mono ho5 bw4.size
        clear hys ho5
        go_wp2_with fail
        refine (specFits_any A n c l A5 ys.length c5 ys _ hn (by omega) HL.out rfl (ha.belowS bw5) at5 hz hyz).mono ?_
        rintro e w6 ⟨b, rfl, hfit, hb6⟩
        have bw6 := below_step bw5 hb6
        have HFI := Lib.hid hfit
        have ho7 := own_belowS ho6 hb6
        clear hfit at5
        cases b with
        | false =>
          have HN := Lib.hid (show ¬ CopyG l f t from fun h => by have h1 := h.2.2.2.2.2.2; rw [← HY.out] at h1; have := HFI.out.2 h1; cases this)
          go_wp2_with fail
          refine bodyPost_ret (v := .tuple #[.slice (some ⟨w6.heap.size, 0, none⟩) 0 0, .bool false]) (by simp [results, Tryd.results31, go_sem]) rfl ?_
          exact OutB.lit (.inr ⟨HN.out, rfl, rfl⟩) bw6
        | true =>
          have HC := Lib.hid (show CopyG l f t from ⟨HT.out, by rw [HD.out]; omega, by rw [HE.out]; omega, by rw [HG.out]; exact HX.out, of_decide_eq_false HR1.out, HU.out, by rw [← HY.out]; exact HFI.out.1 (by first | rfl | trivial)⟩)
          go_wp2_with fail
          refine bodyPost_ret (v := .tuple #[.slice A5 ys.length c5, .bool true]) (by simp [results, Tryd.results31, go_sem]) rfl ?_
          exact ⟨A5, c5, ys, true, rfl, .inl ⟨HC.out, rfl, HY.out⟩, ho7, bw6⟩

set_option maxHeartbeats 2000000 in
theorem implCopyAll_any (A : Option Addr) (n c : Nat) (l : List Nod) (f t : ByteArray) (w : World) (hn : n ≤ 1048576) (hl : l.length = n) (ha : At encN 3 w A l) (hz : ∀ q ∈ l, q.p.size ≤ 1048576) (hfs : f.size ≤ 1048576) (hts : t.size ≤ 1048576) (hm : MaxAt w) :
    Calls Tryd.prog 32 #[.slice A n c, .string f, .string t] w (OutB encK 5 35 (CopyR l f t) w) := by
  obtain ⟨n0, hin, hzn0, hzn1, hzn2⟩ := info_parts infoN
  obtain ⟨k0, hki, hkz0, hkz1, hkz2⟩ := info_parts infoK
  have HL := Lib.hid hl
  have HMX := Lib.hid hm
  clear hl hm
  obtain ⟨pf, hpf⟩ : ∃ pf, pathB f.data.toList = pf := ⟨_, rfl⟩
  have HPF := Lib.hid hpf
  obtain ⟨pt, hpt⟩ : ∃ pt, pathB t.data.toList = pt := ⟨_, rfl⟩
  have HPT := Lib.hid hpt
  obtain ⟨z, hz0⟩ : ∃ z, posI l f.data.toList = z := ⟨_, rfl⟩
  have HZ := Lib.hid hz0
  obtain ⟨u, hu⟩ : ∃ u, underL f.data.toList t.data.toList = u := ⟨_, rfl⟩
  have HU := Lib.hid hu
  clear hpf hpt hz0 hu
  go_enter Tryd.func32, Tryd.ntmps32
  go_wp2_with fail
  refine (implTree_any A n c l _ (by omega) HL.out ha hz HMX.out).mono ?_
  rintro e w1 ⟨b, rfl, hb', hb1⟩
  have HB := Lib.hid hb'
  clear hb'
  cases b with
  | false =>
    have HN := Lib.hid (show ¬ CopyG l f t from fun h => by have := HB.out.2 h.1; cases this)
    go_wp2_with fail
    refine bodyPost_ret (v := .tuple #[.slice none 0 0, .bool false]) (by simp [results, Tryd.results32, go_sem]) rfl ?_
    exact OutB.nil (.inr ⟨HN.out, rfl, rfl⟩) hb1
  | true =>
    have HT := Lib.hid (HB.out.1 (by first | rfl | trivial))
    go_wp2_with fail
    refine (implPath_any f _ hfs (HMX.out.belowS hb1)).mono ?_
    rw [HPF.out]
    rintro e w2 ⟨rfl, hb2⟩
    have bw2 := below_step hb1 hb2
    cases pf with
    | false =>
      have HN := Lib.hid (show ¬ CopyG l f t from fun h => by have h1 := (depth_pos.1 h.2.1).1; rw [HPF.out] at h1; cases h1)
      go_wp2_with fail
      refine bodyPost_ret (v := .tuple #[.slice none 0 0, .bool false]) (by simp [results, Tryd.results32, go_sem]) rfl ?_
      exact OutB.nil (.inr ⟨HN.out, rfl, rfl⟩) bw2
    | true =>
    go_wp2_with fail
    refine (implPath_any t _ hts (HMX.out.belowS bw2)).mono ?_
    rw [HPT.out]
    rintro e w3 ⟨rfl, hb3⟩
    have bw3 := below_step bw2 hb3
    cases pt with
    | false =>
      have HN := Lib.hid (show ¬ CopyG l f t from fun h => by have h1 := (depth_pos.1 h.2.2.1).1; rw [HPT.out] at h1; cases h1)
      go_wp2_with fail
      refine bodyPost_ret (v := .tuple #[.slice none 0 0, .bool false]) (by simp [results, Tryd.results32, go_sem]) rfl ?_
      exact OutB.nil (.inr ⟨HN.out, rfl, rfl⟩) bw3
    | true =>
    by_cases hr : f.data.toList = [47]
    · have hx : (f.toList == [47]) = true := by rw [toList_beq hr]; rfl
      have HR := Lib.hid hr
      clear hr
      have HN := Lib.hid (show ¬ CopyG l f t from fun h => (depth_pos.1 h.2.1).2 HR.out)
      go_wp2_with fail
      refine bodyPost_ret (v := .tuple #[.slice none 0 0, .bool false]) (by simp [results, Tryd.results32, go_sem]) rfl ?_
      exact OutB.nil (.inr ⟨HN.out, rfl, rfl⟩) bw3
    have hx : (f.toList == [47]) = false := by rw [toList_beq rfl]; exact decide_eq_false hr
    have HF := Lib.hid hr
    clear hr
    by_cases hr : t.data.toList = [47]
    · have hx2 : (t.toList == [47]) = true := by rw [toList_beq hr]; rfl
      have HR := Lib.hid hr
      clear hr
      have HN := Lib.hid (show ¬ CopyG l f t from fun h => (depth_pos.1 h.2.2.1).2 HR.out)
      go_wp2_with fail
      refine bodyPost_ret (v := .tuple #[.slice none 0 0, .bool false]) (by simp [results, Tryd.results32, go_sem]) rfl ?_
      exact OutB.nil (.inr ⟨HN.out, rfl, rfl⟩) bw3
    have hx2 : (t.toList == [47]) = false := by rw [toList_beq rfl]; exact decide_eq_false hr
    have HT47 := Lib.hid hr
    clear hr
    have HZG := Lib.hid (show decide (z < 0) = decide ((getN l f.data.toList).1 = 0) by rw [← HZ.out]; exact HT.out.pos_lt HF.out)
    go_wp2_with fail
    refine (implFind_any A n c l f _ (by omega) HL.out (ha.belowS bw3)).mono ?_
    rw [HZ.out]
    rintro e w4 ⟨rfl, hb4⟩
    have bw4 := below_step bw3 hb4
    by_cases hg : z < 0
    · have hg' : decide (z < 0) = true := decide_eq_true hg
      have HX := Lib.hid (show (getN l f.data.toList).1 = 0 from of_decide_eq_true (by rw [← HZG.out]; exact hg'))
      have HN := Lib.hid (show ¬ CopyG l f t from fun h => h.2.2.2.1 HX.out)
      go_wp2_with fail
      refine bodyPost_ret (v := .tuple #[.slice none 0 0, .bool false]) (by simp [results, Tryd.results32, go_sem]) rfl ?_
      exact OutB.nil (.inr ⟨HN.out, rfl, rfl⟩) bw4
    have hg' : decide (z < 0) = false := decide_eq_false hg
    have HX := Lib.hid (show (getN l f.data.toList).1 ≠ 0 from of_decide_eq_false (by rw [← HZG.out]; exact hg'))
    obtain ⟨r1, hr1⟩ : ∃ r1, decide (f.data.toList = t.data.toList) = r1 := ⟨_, rfl⟩
    have HR1 := Lib.hid hr1
    have hl1 : (f.toList == t.toList) = r1 := by rw [toList_is rfl, toList_is rfl, ← hr1, Bool.eq_iff_iff]; simp
    clear hr1
    cases r1 with
    | true =>
      have HN := Lib.hid (show ¬ CopyG l f t from fun h => h.2.2.2.2.1 (of_decide_eq_true HR1.out))
      go_wp2_with fail
      refine bodyPost_ret (v := .tuple #[.slice none 0 0, .bool false]) (by simp [results, Tryd.results32, go_sem]) rfl ?_
      exact OutB.nil (.inr ⟨HN.out, rfl, rfl⟩) bw4
    | false =>
      go_wp2_with fail
      refine (implUnder_any f t _ HPF.out HPT.out).mono ?_
      rw [HU.out]
      rintro e w' ⟨rfl, rfl⟩
      cases u with
      | true =>
        have HN := Lib.hid (show ¬ CopyG l f t from fun h => by have h1 := h.2.2.2.2.2.1; rw [HU.out] at h1; cases h1)
        go_wp2_with fail
        refine bodyPost_ret (v := .tuple #[.slice none 0 0, .bool false]) (by simp [results, Tryd.results32, go_sem]) rfl ?_
        exact OutB.nil (.inr ⟨HN.out, rfl, rfl⟩) bw4
      | false =>
        clear hl1 hx hx2 hg' hg
        go_wp2_with fail
        go_loopw [8, 50] (fun v i wr => ∃ (k : Nat) (ys : List Cmd), i = .int .i64 k ∧ k ≤ n ∧ ys.length ≤ k ∧ Hid (ys = copyL (l.take k) f t) ∧ wr.ownsRow w.heap.size 35 5 v ys.length (ys.flatMap encK) ∧ Below w.heap.size w wr) (fun _ i _ => n - (intOf i).toNat)
        case atStart => exact ⟨0, [], rfl, Nat.zero_le _, Nat.le_refl _, Lib.hid (by simp [copyL]), World.ownsRow_nil _ _ _ _, bw4⟩
        case round =>
          obtain ⟨k, ys, rfl, hk, hys, HY, ho, hbw⟩ := hrel
          by_cases hlt : k < n
          · have hlk : k < l.length := by rw [HL.out]; exact hlt
            have hidx := fun W => run_index_any (c := c) Tryd.underlying29 hin hzn1 (ha.addr (by omega)) hlt W
            obtain ⟨q, hq⟩ : ∃ q, l[k] = q := ⟨_, rfl⟩
            have HQ := Lib.hid hq
            have hqz := hz q (hq ▸ List.getElem_mem _)
            have HQP := Lib.hid (HT.out.ok (show q ∈ l from hq ▸ List.getElem_mem _)).path.1
            obtain ⟨c0, c1, c2⟩ := at3 (ha.belowS hbw) hlk hq
            clear hq
            have P0 := Blk.new wr 73 #[.string q.p, .int .i64 q.x, .int .i64 q.y]
            have bw0 := below_alloc hbw (.cells #[.string q.p, .int .i64 q.x, .int .i64 q.y] 73)
            have ho0 := ho.alloc (.cells #[.string q.p, .int .i64 q.x, .int .i64 q.y] 73)
            obtain ⟨g, hg⟩ : ∃ g, wr.heap.size = g := ⟨_, rfl⟩
            obtain ⟨W0, hW0⟩ : ∃ W0, W0 = wr.alloc (.cells #[.string q.p, .int .i64 q.x, .int .i64 q.y] 73) := ⟨_, rfl⟩
            rw [hg, ← hW0] at P0
            rw [← hW0] at bw0 ho0
            clear ho
            go_upto_region 7 with fail
            try rw [hg]
            rw [← hW0]
            clear hg hW0 c0 c1 c2
            obtain ⟨d0, d1, d2⟩ := blk3 P0
            obtain ⟨r1, hr1⟩ : ∃ r1, decide (q.p.data.toList = f.data.toList) = r1 := ⟨_, rfl⟩
            have HR1 := Lib.hid hr1
            have hl1 : (q.p.toList == f.toList) = r1 := by rw [toList_is rfl, toList_is rfl, ← hr1, Bool.eq_iff_iff]; simp
            clear hr1
            cases r1 with
            | true =>
              have HS := Lib.hid (show selB f.data.toList q = true from by unfold selB; rw [show decide (q.s = f.data.toList) = true from HR1.out]; rfl)
              have HN := Lib.hid (show ys ++ [copyK f t q] = copyL (l.take (k + 1)) f t by rw [copyL_snoc hlk, HQ.out, HS.out, ← HY.out]; rfl)
              have hfq : f.size ≤ q.p.size := sel_len (n := q.p) (x := q.x) (y := q.y) HF.out HS.out
              have hod0 := ho0
              go_upto_region 8 with fail
              have bwd : Below w.heap.size w W0.drew := bw0.drew
              have hod := own_belowS ho0 (Below.refl W0.heap.size W0).drew
              have hoP := hod.alloc (.cells #[.string (t ++ q.p.extract f.size q.p.size), .int .i64 0, .int .i64 0, .int .i64 q.x, .int .i64 q.y] 35)
              have hnP := at_new (enc := encK) W0.drew encK_len [copyK f t q] 35 #[.string (t ++ q.p.extract f.size q.p.size), .int .i64 0, .int .i64 0, .int .i64 q.x, .int .i64 q.y] rfl (by unfold maxLen; simp)
              have hsw := bwd.size
              have hszd : w.heap.size ≤ (W0.drew.alloc (.cells #[.string (t ++ q.p.extract f.size q.p.size), .int .i64 0, .int .i64 0, .int .i64 q.x, .int .i64 q.y] 35)).heap.size := by rw [World.size_alloc]; omega
              have hq1 : ¬ (9223372036854775807 < t.size + (q.p.size - f.size)) := by omega
              have hml : ys.length + 1 ≤ maxLen := by unfold maxLen; omega
              have hbl : (ys.length + 1) * 48 ≤ 140737488355328 := by omega
              go_region_law (refine step_append_at _ (by exact rfl) (.tmp 64) (.tmp 75) 43 (by exact rfl) w.heap.size 35 k0 (.agg #[.string ByteArray.empty, .int .i64 0, .int .i64 0, .int .i64 0, .int .i64 0]) 5 48 Tryd.underlying43 hki hkz0 hkz1 hkz2 rfl (by decide) u8 ys.length _ (by go_simp) hoP encK_len encK_one (some ⟨W0.heap.size, 0, none⟩) 1 1 [copyK f t q] (by go_simp) rfl hnP hml hbl hszd ?_; intro v3 w3 ho3 hg3 hv3)
              all_goals
                go_wp2_with fail
                go_roundw
                case rel => exact ⟨k + 1, ys ++ [copyK f t q], by go_num, by omega, by simp; omega, HN, by rw [List.length_append, List.flatMap_append]; exact ho3, below_app (w := w) (below_alloc bwd _) hg3 (own_ge hod0)⟩
                case measure => simp [intOf]; omega
            | false =>
              obtain ⟨u, hu⟩ : ∃ u, underL f.data.toList q.p.data.toList = u := ⟨_, rfl⟩
              have HU := Lib.hid hu
              clear hu
              go_wp2_with fail
              refine (implUnder_any f q.p _ HPF.out HQP.out).mono ?_
              rw [HU.out]
              rintro e w' ⟨rfl, rfl⟩
              have HSU := Lib.hid (show selB f.data.toList q = u by unfold selB; rw [show decide (q.s = f.data.toList) = false from HR1.out, show underL f.data.toList q.s = u from HU.out]; rfl)
              cases u with
              | false =>
                have HN := Lib.hid (show ys = copyL (l.take (k + 1)) f t by rw [copyL_snoc hlk, HQ.out, HSU.out, ← HY.out]; simp)
                go_wp2_with fail
                go_roundw
                case rel => exact ⟨k + 1, ys, by go_num, by omega, by omega, HN, ho0, bw0⟩
                case measure => simp [intOf]; omega
              | true =>
                have HS := Lib.hid (show selB f.data.toList q = true from HSU.out)
                have HN := Lib.hid (show ys ++ [copyK f t q] = copyL (l.take (k + 1)) f t by rw [copyL_snoc hlk, HQ.out, HS.out, ← HY.out]; rfl)
                have hfq : f.size ≤ q.p.size := sel_len (n := q.p) (x := q.x) (y := q.y) HF.out HS.out
                have hod0 := ho0
                go_upto_region 8 with fail
                have bwd : Below w.heap.size w W0.drew := bw0.drew
                have hod := own_belowS ho0 (Below.refl W0.heap.size W0).drew
                have hoP := hod.alloc (.cells #[.string (t ++ q.p.extract f.size q.p.size), .int .i64 0, .int .i64 0, .int .i64 q.x, .int .i64 q.y] 35)
                have hnP := at_new (enc := encK) W0.drew encK_len [copyK f t q] 35 #[.string (t ++ q.p.extract f.size q.p.size), .int .i64 0, .int .i64 0, .int .i64 q.x, .int .i64 q.y] rfl (by unfold maxLen; simp)
                have hsw := bwd.size
                have hszd : w.heap.size ≤ (W0.drew.alloc (.cells #[.string (t ++ q.p.extract f.size q.p.size), .int .i64 0, .int .i64 0, .int .i64 q.x, .int .i64 q.y] 35)).heap.size := by rw [World.size_alloc]; omega
                have hq1 : ¬ (9223372036854775807 < t.size + (q.p.size - f.size)) := by omega
                have hml : ys.length + 1 ≤ maxLen := by unfold maxLen; omega
                have hbl : (ys.length + 1) * 48 ≤ 140737488355328 := by omega
                go_region_law (refine step_append_at _ (by exact rfl) (.tmp 64) (.tmp 75) 43 (by exact rfl) w.heap.size 35 k0 (.agg #[.string ByteArray.empty, .int .i64 0, .int .i64 0, .int .i64 0, .int .i64 0]) 5 48 Tryd.underlying43 hki hkz0 hkz1 hkz2 rfl (by decide) u8 ys.length _ (by go_simp) hoP encK_len encK_one (some ⟨W0.heap.size, 0, none⟩) 1 1 [copyK f t q] (by go_simp) rfl hnP hml hbl hszd ?_; intro v3 w3 ho3 hg3 hv3)
                all_goals
                  go_wp2_with fail
                  go_roundw
                  case rel => exact ⟨k + 1, ys ++ [copyK f t q], by go_num, by omega, by simp; omega, HN, by rw [List.length_append, List.flatMap_append]; exact ho3, below_app (w := w) (below_alloc bwd _) hg3 (own_ge hod0)⟩
                  case measure => simp [intOf]; omega
          · obtain rfl : n = k := by omega
            have HYA := Lib.hid (show ys = copyL l f t by rw [HY.out, List.take_of_length_le (by rw [HL.out]; exact Nat.le_refl _)])
            obtain ⟨A5, c5, rfl, -, -, -⟩ := own_form ho
            have at5 := own_at encK_len ho rfl
            have hyz : ∀ q ∈ ys, q.p.size ≤ 1048576 := fun q hq => copyL_small HT.out HPT.out q (by rw [← HYA.out]; exact hq)
            go_wp2_with fail
            refine (implFits_any A n c l A5 ys.length c5 ys _ hn (by omega) HL.out rfl (ha.belowS hbw) at5 hz hyz (HMX.out.belowS hbw)).mono ?_
            rintro e w6 ⟨b, rfl, hfit, hb6⟩
            have bw6 := below_step hbw hb6
            have HFI := Lib.hid hfit
            have ho7 := own_belowS ho hb6
            clear hfit at5 ho
            cases b with
            | false =>
              have HN := Lib.hid (show ¬ CopyG l f t from fun h => by have h1 := h.2.2.2.2.2.2; rw [← HYA.out] at h1; have := HFI.out.2 h1; cases this)
              go_wp2_with fail
              refine bodyPost_ret (v := .tuple #[.slice none 0 0, .bool false]) (by simp [results, Tryd.results32, go_sem]) rfl ?_
              exact OutB.nil (.inr ⟨HN.out, rfl, rfl⟩) bw6
            | true =>
              have HC := Lib.hid (show CopyG l f t from ⟨HT.out, depth_pos.2 ⟨HPF.out, HF.out⟩, depth_pos.2 ⟨HPT.out, HT47.out⟩, HX.out, of_decide_eq_false HR1.out, HU.out, by rw [← HYA.out]; exact HFI.out.1 (by first | rfl | trivial)⟩)
              go_wp2_with fail
              refine bodyPost_ret (v := .tuple #[.slice A5 ys.length c5, .bool true]) (by simp [results, Tryd.results32, go_sem]) rfl ?_
              exact ⟨A5, c5, ys, true, rfl, .inl ⟨HC.out, rfl, HYA.out⟩, ho7, bw6⟩
end Go.Proofs.YtlhhplhciiobfaaDoor
