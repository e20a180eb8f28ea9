/- The commands that move what lies at a path, by both texts. -/
import Derived.Test.YtlhhplhciiobfaaDoorRem
namespace Go.Proofs.YtlhhplhciiobfaaDoor
open Go.RowKit
set_option linter.unusedVariables false
set_option linter.unusedSimpArgs false
set_option maxRecDepth 20000

theorem MoveR.len20 {l : List Nod} {f t : ByteArray} {a : List Cmd} {c : Bool} (h : MoveR l f t a c) : a.length ≤ 20 := by
  have h2 := h.len
  rcases h with ⟨h, _, _⟩ | ⟨_, _, rfl⟩
  · have := h.1.2.2; omega
  · exact Nat.zero_le _

set_option maxHeartbeats 2000000 in
theorem specMoveAll_any (A : Option Addr) (n c : Nat) (l : List Nod) (f t : ByteArray) (w : World) (hn : n ≤ 1048576) (hl : l.length = n) (ha : At encN 3 w A l) (hz : ∀ q ∈ l, q.p.size ≤ 1048576) (hfs : f.size ≤ 1048576) (hts : t.size ≤ 1048576) :
    Calls Tryd.prog 34 #[.slice A n c, .string f, .string t] w (OutB encK 5 35 (MoveR l f t) w) := by
  obtain ⟨k0, hki, hkz0, hkz1, hkz2⟩ := info_parts infoK
  have HL := Lib.hid hl
  clear hl
  go_enter Tryd.func34, Tryd.ntmps34
  go_wp2_with fail
  refine (specCopyAll_any A n c l f t _ hn HL.out ha hz hfs hts).mono ?_
  rintro e w1 ⟨A1, c1, ys, b, rfl, hR, ho1, hb1⟩
  rcases hR with ⟨hG, rfl, hy⟩ | ⟨hG, rfl, hy⟩
  · have HG := Lib.hid hG
    have HY := Lib.hid hy
    have hy0 : ys.length ≤ n := by rw [hy, ← HL.out]; exact copyL_len _ _ _
    clear hy hG
    go_wp2_with fail
    refine (specRem_any A n c l f _ hn HL.out (ha.belowS hb1) hz hfs).mono ?_
    rintro e w2 ⟨A2, c2, zs, rfl, hzs, ho2, hb2⟩
    have bw2 := below_step hb1 hb2
    have HZ := Lib.hid (show zs = remL l f.data.toList from hzs)
    have hz0 : zs.length ≤ n := by rw [HZ.out, ← HL.out]; exact remL_len _ _
    have ho3 := own_belowS ho1 hb2
    have at2 := own_at encK_len ho2 rfl
    have hsw := bw2.size
    clear hzs ho1
    go_wp2_with (at_builtin; refine wpList_append_at _ rfl _ _ 43 rfl w.heap.size 35 k0 (.agg #[.string ByteArray.empty, .int .i64 0, .int .i64 0, .int .i64 0, .int .i64 0]) 5 48 Tryd.underlying43 hki hkz0 hkz1 hkz2 rfl (by decide) _ ys.length _ rfl ho3 encK_len encK_one A2 zs.length c2 zs rfl rfl at2 (by unfold maxLen; omega) (by omega) (by omega) ?_; intro v3 w3 ho4 hg4 hv4)
    have bw3 := below_app (w := w) bw2 hg4 (own_ge ho3)
    obtain ⟨A3, c3, rfl, -, -, -⟩ := own_form ho4
    refine bodyPost_ret (v := .tuple #[.slice A3 (ys.length + zs.length) c3, .bool true]) (by simp [results, Tryd.results34, go_sem]) rfl ?_
    exact OutB.of (ys := ys ++ zs) (by simp) (.inl ⟨HG.out, rfl, by rw [HY.out, HZ.out]⟩) (by rw [List.flatMap_append]; exact ho4) bw3
  · have HG := Lib.hid hG
    clear hy hG
    go_wp2_with fail
    refine bodyPost_ret (v := .tuple #[.slice (some ⟨w1.heap.size, 0, none⟩) 0 0, .bool false]) (by simp [results, Tryd.results34, go_sem]) rfl ?_
    exact OutB.lit (.inr ⟨HG.out, rfl, rfl⟩) hb1

set_option maxHeartbeats 2000000 in
theorem implMoveAll_any (A : Option Addr) (n c : Nat) (l : List Nod) (f t : ByteArray) (w : World) (hn : n ≤ 1048576) (hl : l.length = n) (ha : At encN 3 w A l) (hz : ∀ q ∈ l, q.p.size ≤ 1048576) (hfs : f.size ≤ 1048576) (hts : t.size ≤ 1048576) (hm : MaxAt w) :
    Calls Tryd.prog 35 #[.slice A n c, .string f, .string t] w (OutB encK 5 35 (MoveR l f t) w) := by
  obtain ⟨k0, hki, hkz0, hkz1, hkz2⟩ := info_parts infoK
  have HL := Lib.hid hl
  have HMX := Lib.hid hm
  clear hl hm
  go_enter Tryd.func35, Tryd.ntmps35
  go_wp2_with fail
  refine (implCopyAll_any A n c l f t _ hn HL.out ha hz hfs hts HMX.out).mono ?_
  rintro e w1 ⟨A1, c1, ys, b, rfl, hR, ho1, hb1⟩
  rcases hR with ⟨hG, rfl, hy⟩ | ⟨hG, rfl, hy⟩
  · have HG := Lib.hid hG
    have HY := Lib.hid hy
    have hy0 : ys.length ≤ n := by rw [hy, ← HL.out]; exact copyL_len _ _ _
    clear hy hG
    go_wp2_with fail
    refine (implRemoveAll_any A n c l f _ hn HL.out (ha.belowS hb1) hz hfs (HMX.out.belowS hb1)).mono ?_
    rintro e w2 ⟨A2, c2, zs, b2, rfl, hR2, ho2, hb2⟩
    have bw2 := below_step hb1 hb2
    have HZ := Lib.hid (show zs = remL l f.data.toList from by
      rcases hR2 with ⟨_, _, h⟩ | ⟨h, _, _⟩
      · exact h
      · exact absurd ⟨HG.out.1, HG.out.2.1, HG.out.2.2.2.1⟩ h)
    have hz0 : zs.length ≤ n := by rw [HZ.out, ← HL.out]; exact remL_len _ _
    have ho3 := own_belowS ho1 hb2
    have at2 := own_at encK_len ho2 rfl
    have hsw := bw2.size
    clear hR2 ho1
    go_wp2_with (at_builtin; refine wpList_append_at _ rfl _ _ 43 rfl w.heap.size 35 k0 (.agg #[.string ByteArray.empty, .int .i64 0, .int .i64 0, .int .i64 0, .int .i64 0]) 5 48 Tryd.underlying43 hki hkz0 hkz1 hkz2 rfl (by decide) _ ys.length _ rfl ho3 encK_len encK_one A2 zs.length c2 zs rfl rfl at2 (by unfold maxLen; omega) (by omega) (by omega) ?_; intro v3 w3 ho4 hg4 hv4)
    have bw3 := below_app (w := w) bw2 hg4 (own_ge ho3)
    obtain ⟨A3, c3, rfl, -, -, -⟩ := own_form ho4
    refine bodyPost_ret (v := .tuple #[.slice A3 (ys.length + zs.length) c3, .bool true]) (by simp [results, Tryd.results35, go_sem]) rfl ?_
    exact OutB.of (ys := ys ++ zs) (by simp) (.inl ⟨HG.out, rfl, by rw [HY.out, HZ.out]⟩) (by rw [List.flatMap_append]; exact ho4) bw3
  · have HG := Lib.hid hG
    clear hy hG
    go_wp2_with fail
    refine bodyPost_ret (v := .tuple #[.slice none 0 0, .bool false]) (by simp [results, Tryd.results35, go_sem]) rfl ?_
    exact OutB.nil (.inr ⟨HG.out, rfl, rfl⟩) hb1
end Go.Proofs.YtlhhplhciiobfaaDoor
