/- The canonical log from one tree to another one, by the program. -/
import Derived.Test.YthcfjiapmigjiaaDoorDifL
import Derived.Test.YthcfjiapmigjiaaDoorChgI
import Derived.Test.YthcfjiapmigjiaaDoorCanK
namespace Go.Proofs.YthcfjiapmigjiaaDoor
open Go.RowKit
set_option linter.unusedVariables false
set_option linter.unusedSimpArgs false
set_option maxRecDepth 20000

theorem dif_snoc {l ks : List Nod} {ps : List ByteArray} {k : Nat} {p : ByteArray} (h : ps[k]? = some p) : (ps.take (k + 1)).map (difK l ks) = (ps.take k).map (difK l ks) ++ [difK l ks p] := by
  obtain ⟨hd, rfl⟩ := List.getElem?_eq_some_iff.1 h
  rw [List.take_succ_eq_append_getElem hd, List.map_append]; rfl

set_option maxHeartbeats 4000000 in
theorem implCanonDiff_any (A : Option Addr) (n c : Nat) (l : List Nod) (B : Option Addr) (m d : Nat) (ks : List Nod) (w : World) (hn : n ≤ 1048576) (hm' : m ≤ 1048576) (hl : l.length = n) (hk : ks.length = m) (ha : At encN 3 w A l) (hb : At encN 3 w B ks) (hz : ∀ q ∈ l, q.p.size ≤ 1048576) (hzk : ∀ q ∈ ks, q.p.size ≤ 1048576) (hmx : MaxAt w) :
    Calls Tryd.prog 9 #[.slice A n c, .slice B m d] w (OutB encK 5 52 (DifR l ks) w) := by
  obtain ⟨k0, hki, hkz0, hkz1, hkz2⟩ := info_parts infoK
  obtain ⟨i0, hi0, hj0, hj1, hj2⟩ := info_parts infoStr
  have HL := Lib.hid hl
  have HK := Lib.hid hk
  have HMX := Lib.hid hmx
  clear hl hk hmx
  go_enter Tryd.func9, Tryd.ntmps9
  go_wp2_with fail
  refine (implTree_any A n c l _ (by omega) HL.out ha hz HMX.out).mono ?_
  rintro e w1 ⟨b1, rfl, hb1', hb1⟩
  have bw1 := below_step (Below.refl w.heap.size w) hb1
  have HB1 := Lib.hid hb1'
  clear hb1'
  cases b1 with
  | false =>
    have HN := Lib.hid (show DifR l ks [] false from .inr ⟨fun h => (by have := HB1.out.2 h.1; cases this), rfl, rfl⟩)
    go_wp2_with fail
    refine bodyPost_ret (v := .tuple #[.slice none 0 0, .bool false]) (by simp [results, Tryd.results9, go_sem]) rfl ?_
    exact OutB.nil HN.out bw1
  | true =>
    go_wp2_with fail
    refine (implTree_any B m d ks _ (by omega) HK.out (hb.belowS bw1) hzk (HMX.out.belowS bw1)).mono ?_
    rintro e w2 ⟨b2, rfl, hb2', hb2⟩
    have bw2 := below_step bw1 hb2
    have HB2 := Lib.hid hb2'
    clear hb2'
    cases b2 with
    | false =>
      have HN := Lib.hid (show DifR l ks [] false from .inr ⟨fun h => (by have := HB2.out.2 h.2; cases this), rfl, rfl⟩)
      go_wp2_with fail
      refine bodyPost_ret (v := .tuple #[.slice none 0 0, .bool false]) (by simp [results, Tryd.results9, go_sem]) rfl ?_
      exact OutB.nil HN.out bw2
    | true =>
      have HG := Lib.hid (show TreeP l ∧ TreeP ks from ⟨HB1.out.1 (by first | rfl | trivial), HB2.out.1 (by first | rfl | trivial)⟩)
      clear HB1 HB2
      go_wp2_with fail
      refine (implChanged_any A n c l B m d ks _ hn hm' HL.out HK.out (ha.belowS bw2) (hb.belowS bw2) hz hzk (HMX.out.belowS bw2)).mono ?_
      rintro e w3 ⟨A3, c3, ps, rfl, hps, hop, hb3⟩
      have bw3 := below_step bw2 hb3
      have HPS := Lib.hid (show ps = chgL l ks from by rcases hps with h | h; exact h.2; exact absurd HG.out h.1)
      have hp20 := hps.len
      obtain ⟨N, hN⟩ : ∃ N, ps.length = N := ⟨_, rfl⟩
      have HNN := Lib.hid hN
      have hat := own_at encS_len hop rfl
      have hs3 := bw3.size
      rw [hN] at hp20 ⊢
      clear hps hop hN
      go_wp2_with fail
      go_loopw [6, 21] (fun v i wr => ∃ (k : Nat) (ys : List Cmd), i = .int .i64 k ∧ k ≤ N ∧ ys.length ≤ k ∧ Hid (ys = (ps.take k).map (difK l ks)) ∧ wr.ownsRow w3.heap.size 52 5 v ys.length (ys.flatMap encK) ∧ Below w3.heap.size w3 wr) (fun _ i _ => N - (intOf i).toNat)
      case atStart => exact ⟨0, [], rfl, Nat.zero_le _, Nat.le_refl _, Lib.hid (by simp), World.ownsRow_nil _ _ _ _, Below.refl _ _⟩
      case round =>
        obtain ⟨k, ys, rfl, hk, hys, HY, ho, hbw⟩ := hrel
        by_cases hlt : k < N
        · have hlk : k < ps.length := by rw [HNN.out]; exact hlt
          have hidx := fun W => run_index_one (c := c3) Tryd.underlying47 hi0 hj1 (hat.addr (by omega)) hlt W
          obtain ⟨p, hp⟩ : ∃ p, ps[k] = p := ⟨_, rfl⟩
          have HP := Lib.hid (show ps[k]? = some p by rw [List.getElem?_eq_getElem hlk, hp])
          have c0 := (hat.belowS hbw).cell1 hlk (u := .string p) (by rw [hp]; rfl)
          clear hp
          have bw4 := below_step bw3 hbw
          go_wp2_with fail
          refine (implGet_any A n c l p _ (by omega) HL.out (ha.belowS bw4)).mono ?_
          rintro e w5 ⟨x, y, rfl, hga, hb5⟩
          have bw5 := below_step bw4 hb5
          have bv5 := below_step hbw hb5
          have HGA := Lib.hid hga
          clear hga c0
          go_wp2_with fail
          refine (implGet_any B m d ks p _ (by omega) HK.out (hb.belowS bw5)).mono ?_
          rintro e w6 ⟨z, u, rfl, hgb, hb6⟩
          have bv6 := below_step bv5 hb6
          have HQ := Lib.hid (difK_of HGA.out hgb)
          have ho6 := own_belowS (own_belowS ho hb5) hb6
          have hs6 := bv6.size
          have HN := Lib.hid (show ys ++ [⟨p, x, y, z, u⟩] = (ps.take (k + 1)).map (difK l ks) by rw [dif_snoc HP.out, HQ.out, HY.out])
          have hnP := at_new (enc := encK) w6 encK_len [⟨p, x, y, z, u⟩] 52 #[.string p, .int .i64 x, .int .i64 y, .int .i64 z, .int .i64 u] rfl (by unfold maxLen; simp)
          have hoP := ho6.alloc (.cells #[.string p, .int .i64 x, .int .i64 y, .int .i64 z, .int .i64 u] 52)
          clear hgb
          go_wp2_with (at_builtin; refine wpList_append_at _ rfl _ _ 24 rfl w3.heap.size 52 k0 (.agg #[.string ByteArray.empty, .int .i64 0, .int .i64 0, .int .i64 0, .int .i64 0]) 5 48 Tryd.underlying24 hki hkz0 hkz1 hkz2 rfl (by decide) _ ys.length _ rfl hoP encK_len encK_one _ 1 1 [⟨p, x, y, z, u⟩] rfl rfl hnP (by unfold maxLen; omega) (by omega) (by simp; omega) ?_; intro v7 w7 ho7 hg7 hv7)
          go_roundw
          case rel => exact ⟨k + 1, ys ++ [⟨p, x, y, z, u⟩], by go_num, by omega, by simp; omega, HN, by rw [List.length_append, List.flatMap_append]; exact ho7, below_app (w := w3) (below_alloc bv6 _) hg7 (own_ge ho6)⟩
          case measure => simp [intOf]; omega
        · obtain rfl : N = k := by omega
          have HD := Lib.hid (show ys = difL l ks by rw [HY.out, List.take_of_length_le (by rw [HNN.out]; exact Nat.le_refl _), HPS.out]; rfl)
          have hys4 : ys.length ≤ 4194304 := by omega
          obtain ⟨B4, d4, rfl, -, -, -⟩ := own_form ho
          go_wp2_with fail
          refine (sortFunc_any B4 ys.length d4 w3.heap.size ys _ hys4 hbw.size rfl ho (by rw [HD.out]; exact dif_nodup HG.out.1 HG.out.2)).mono ?_
          rintro e w5 ⟨rfl, ho5, hb5⟩
          have bw5 := bw3.trans ((hbw.trans hb5).mono hs3)
          have HS := Lib.hid (sortR_len ys)
          go_wp2_with fail
          refine bodyPost_ret (v := .tuple #[.slice B4 ys.length d4, .bool true]) (by simp [results, Tryd.results9, go_sem]) rfl ?_
          exact ⟨B4, d4, sortR ys, true, by rw [HS.out], .inl ⟨HG.out, by rw [HD.out], rfl⟩, by rw [HS.out]; exact own_mono ho5 hs3, bw5⟩
end Go.Proofs.YthcfjiapmigjiaaDoor
