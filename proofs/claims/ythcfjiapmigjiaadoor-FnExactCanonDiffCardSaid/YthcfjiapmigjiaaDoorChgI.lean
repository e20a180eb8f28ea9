/- The paths of two trees whose contents differ, by both texts. -/
import Derived.Test.YthcfjiapmigjiaaDoorTreeI
import Derived.Test.YthcfjiapmigjiaaDoorOut
import Derived.Test.YthcfjiapmigjiaaDoorPutS
import Derived.Test.YthcfjiapmigjiaaDoorIf2
namespace Go.Proofs.YthcfjiapmigjiaaDoor
open Go.RowKit
set_option linter.unusedVariables false
set_option linter.unusedSimpArgs false
set_option maxRecDepth 20000

def ChgR (l ks : List Nod) (ys : List ByteArray) : Prop := (TreeP l ∧ TreeP ks) ∧ ys = chgL l ks ∨ ¬ (TreeP l ∧ TreeP ks) ∧ ys = []
theorem ChgR.same {l ks : List Nod} {a b : List ByteArray} (h : ChgR l ks a) (k : ChgR l ks b) : a = b := by
  rcases h with ⟨h, rfl⟩ | ⟨h, rfl⟩ <;> rcases k with ⟨k, rfl⟩ | ⟨k, rfl⟩
  · rfl
  · exact absurd h k
  · exact absurd k h
  · rfl
theorem ChgR.len {l ks : List Nod} {a : List ByteArray} (h : ChgR l ks a) : a.length ≤ 20 := by
  rcases h with ⟨⟨h1, h2⟩, rfl⟩ | ⟨_, rfl⟩
  · exact Nat.le_trans (List.length_filter_le _ _) (Nat.le_trans (merge_len _ l ks (Nat.le_refl _)) (by have := h1.2.2; have := h2.2.2; omega))
  · exact Nat.zero_le _
/-- What is left to merge. -/
def mrg (l ks : List Nod) (a b : Nat) : List ByteArray := mergeP (l.drop a) (ks.drop b)
theorem drop_at {l : List Nod} {a : Nat} {p : Nod} (h : l[a]? = some p) : l.drop a = p :: l.drop (a + 1) := by
  obtain ⟨hd, rfl⟩ := List.getElem?_eq_some_iff.1 h
  exact List.drop_eq_getElem_cons hd
theorem mrg_end {l ks : List Nod} {n m : Nat} (hn : l.length = n) (hm : ks.length = m) : mrg l ks n m = [] := by
  unfold mrg
  rw [List.drop_of_length_le (by omega), List.drop_of_length_le (by omega), mergeP]
theorem mrg_left {l ks : List Nod} {a m : Nat} {p : Nod} (hm : ks.length = m) (h : l[a]? = some p) : mrg l ks a m = p.p :: mrg l ks (a + 1) m := by
  unfold mrg
  rw [List.drop_of_length_le (l := ks) (by omega), drop_at h, mergeP]
theorem mrg_right {l ks : List Nod} {n b : Nat} {q : Nod} (hn : l.length = n) (h : ks[b]? = some q) : mrg l ks n b = q.p :: mrg l ks n (b + 1) := by
  unfold mrg
  rw [List.drop_of_length_le (l := l) (by omega), drop_at h, mergeP]
theorem mrg_lt {l ks : List Nod} {a b : Nat} {p q : Nod} (hp : l[a]? = some p) (hq : ks[b]? = some q) (h : Op.bytesLess p.s q.s = true) : mrg l ks a b = p.p :: mrg l ks (a + 1) b := by
  unfold mrg
  rw [drop_at hp, drop_at hq, mergeP, if_pos h]
theorem mrg_gt {l ks : List Nod} {a b : Nat} {p q : Nod} (hp : l[a]? = some p) (hq : ks[b]? = some q) (h : Op.bytesLess p.s q.s = false) (h2 : Op.bytesLess q.s p.s = true) : mrg l ks a b = q.p :: mrg l ks a (b + 1) := by
  unfold mrg
  rw [drop_at hp, drop_at hq, mergeP, if_neg (by rw [h]; simp), if_pos h2]
theorem mrg_eq {l ks : List Nod} {a b : Nat} {p q : Nod} (hp : l[a]? = some p) (hq : ks[b]? = some q) (h : Op.bytesLess p.s q.s = false) (h2 : Op.bytesLess q.s p.s = false) : mrg l ks a b = p.p :: mrg l ks (a + 1) (b + 1) := by
  unfold mrg
  rw [drop_at hp, drop_at hq, mergeP, if_neg (by rw [h]; simp), if_neg (by rw [h2]; simp)]

set_option maxHeartbeats 2000000 in
theorem specPaths_any (A : Option Addr) (n c : Nat) (l : List Nod) (B : Option Addr) (m d : Nat) (ks : List Nod) (w : World) (hn : n ≤ 1048576) (hm' : m ≤ 1048576) (hl : l.length = n) (hk : ks.length = m) (ha : At encN 3 w A l) (hb : At encN 3 w B ks) :
    Calls Tryd.prog 49 #[.slice A n c, .slice B m d] w (OutR encS 1 9 (fun ys => ys = mergeP l ks) w) := by
  obtain ⟨n0, hin, hzn0, hzn1, hzn2⟩ := info_parts infoN
  obtain ⟨i0, hi0, hj0, hj1, hj2⟩ := info_parts infoStr
  have HL := Lib.hid hl
  have HK := Lib.hid hk
  clear hl hk
  go_enter Tryd.func49, Tryd.ntmps49
  go_wp2_with fail
  go_loopw [5, 6, 7] (fun v i k wr => ∃ (a b : Nat) (ys : List ByteArray), i = .int .i64 a ∧ k = .int .i64 b ∧ a ≤ n ∧ b ≤ m ∧ ys.length ≤ a + b ∧ ys ++ mrg l ks a b = mrg l ks 0 0 ∧ wr.ownsRow w.heap.size 9 1 v ys.length (ys.flatMap encS) ∧ Below w.heap.size w wr) (fun _ i k _ => (n - (intOf i).toNat) + (m - (intOf k).toNat))
  case atStart => exact ⟨0, 0, [], rfl, rfl, Nat.zero_le _, Nat.zero_le _, Nat.le_refl _, rfl, World.ownsRow_lit (base := w.heap.size) (e := 9) (size := 1) w #[] 0 (Nat.le_refl _) (by decide) rfl, (Below.refl _ _).alloc (Nat.le_refl _) _⟩
  case round =>
    obtain ⟨a, b, ys, rfl, rfl, hka, hkb, hys, HY', ho, hbw⟩ := hrel
    have HY := Lib.hid HY'
    clear HY'

    by_cases hlt : a < n
    · have hla : a < l.length := by rw [HL.out]; exact hlt
      have hda : decide ((a : Int) < (n : Int)) = true := decide_eq_true (by omega)
      have hea : ((a : Int) == (n : Int)) = false := by simp; omega
      have hidxa := fun W => run_index_any (c := c) Tryd.underlying27 hin hzn1 (ha.addr (by omega)) hlt W
      obtain ⟨p, hp⟩ : ∃ p, l[a] = p := ⟨_, rfl⟩
      have HP := Lib.hid (show l[a]? = some p by rw [List.getElem?_eq_getElem hla, hp])
      obtain ⟨a0, a1, a2⟩ := at3 (ha.belowS hbw) hla hp
      clear hp
      by_cases hltb : b < m
      · have hlb : b < ks.length := by rw [HK.out]; exact hltb
        have hdb : decide ((b : Int) < (m : Int)) = true := decide_eq_true (by omega)
        have heb : ((b : Int) == (m : Int)) = false := by simp; omega
        have hidxb := fun W => run_index_any (c := d) Tryd.underlying27 hin hzn1 (hb.addr (by omega)) hltb W
        obtain ⟨q, hq⟩ : ∃ q, ks[b] = q := ⟨_, rfl⟩
        have HQ := Lib.hid (show ks[b]? = some q by rw [List.getElem?_eq_getElem hlb, hq])
        obtain ⟨b0, b1, b2⟩ := at3 (hb.belowS hbw) hlb hq
        clear hq
        obtain ⟨r1, hr1⟩ : ∃ r1, Op.bytesLess p.s q.s = r1 := ⟨_, rfl⟩
        have HR1 := Lib.hid hr1
        have hl1 : Op.bytesLess p.p.toList q.p.toList = r1 := by rw [toList_is rfl, toList_is rfl]; exact hr1
        obtain ⟨r2, hr2⟩ : ∃ r2, Op.bytesLess q.s p.s = r2 := ⟨_, rfl⟩
        have HR2 := Lib.hid hr2
        have hl2 : Op.bytesLess q.p.toList p.p.toList = r2 := by rw [toList_is rfl, toList_is rfl]; exact hr2
        clear hr1 hr2
        cases r1 with
        | true =>
          have HN := Lib.hid (show ys ++ [p.p] ++ mrg l ks (a + 1) (b) = mrg l ks 0 0 by rw [← HY.out, mrg_lt HP.out HQ.out HR1.out]; simp)
          have bwq := fun i => (below_drawn hbw i)
          have hoq := fun i => own_belowS ho (below_drawn (Below.refl wr.heap.size wr) i)
          have hoP := fun i => (hoq i).alloc (.cells #[.string p.p] 9)
          have hnP := fun i => at_new (enc := encS) (wr.drewN i) encS_len [p.p] 9 #[.string p.p] rfl (by unfold maxLen; simp)
          have hsw := hbw.size
          have hge := own_ge ho
          go_wp2_with fail
          first | (go_quiet (fail)) | fail
          clear hbw ho
          go_wp2_with (at_builtin; refine wpList_append_at _ rfl _ _ 47 rfl w.heap.size 9 i0 (.string ByteArray.empty) 1 16 Tryd.underlying47 hi0 hj0 hj1 hj2 rfl (by decide) _ ys.length _ rfl (hoP _) encS_len encS_one _ 1 1 [p.p] rfl rfl (hnP _) (by unfold maxLen; omega) (by omega) (by first | omega | (rw [World.size_alloc]; show _ ≤ wr.heap.size + 1; omega)) ?_; intro v3 w3 ho3 hg3 hv3)
          go_roundw
          case rel => exact ⟨a + 1, b, ys ++ [p.p], by first | rfl | go_num, by first | rfl | go_num, by omega, by omega, by simp; omega, HN.out, by rw [List.length_append, List.flatMap_append]; exact ho3, below_app (w := w) (below_alloc (bwq _) _) hg3 hge⟩
          case measure => simp [intOf]; omega
        | false =>
          cases r2 with
          | true =>
            have HN := Lib.hid (show ys ++ [q.p] ++ mrg l ks (a) (b + 1) = mrg l ks 0 0 by rw [← HY.out, mrg_gt HP.out HQ.out HR1.out HR2.out]; simp)
            have bwq := fun i => (below_drawn hbw i)
            have hoq := fun i => own_belowS ho (below_drawn (Below.refl wr.heap.size wr) i)
            have hoP := fun i => (hoq i).alloc (.cells #[.string q.p] 9)
            have hnP := fun i => at_new (enc := encS) (wr.drewN i) encS_len [q.p] 9 #[.string q.p] rfl (by unfold maxLen; simp)
            have hsw := hbw.size
            have hge := own_ge ho
            go_wp2_with fail
            first | (go_quiet (fail)) | fail
            go_wp2_with fail
            first | (go_quiet (fail)) | fail
            clear hbw ho
            go_wp2_with (at_builtin; refine wpList_append_at _ rfl _ _ 47 rfl w.heap.size 9 i0 (.string ByteArray.empty) 1 16 Tryd.underlying47 hi0 hj0 hj1 hj2 rfl (by decide) _ ys.length _ rfl (hoP _) encS_len encS_one _ 1 1 [q.p] rfl rfl (hnP _) (by unfold maxLen; omega) (by omega) (by first | omega | (rw [World.size_alloc]; show _ ≤ wr.heap.size + 1; omega)) ?_; intro v3 w3 ho3 hg3 hv3)
            go_roundw
            case rel => exact ⟨a, b + 1, ys ++ [q.p], by first | rfl | go_num, by first | rfl | go_num, by omega, by omega, by simp; omega, HN.out, by rw [List.length_append, List.flatMap_append]; exact ho3, below_app (w := w) (below_alloc (bwq _) _) hg3 hge⟩
            case measure => simp [intOf]; omega
          | false =>
            have HN := Lib.hid (show ys ++ [p.p] ++ mrg l ks (a + 1) (b + 1) = mrg l ks 0 0 by rw [← HY.out, mrg_eq HP.out HQ.out HR1.out HR2.out]; simp)
            have bwq := fun i => (below_drawn hbw i)
            have hoq := fun i => own_belowS ho (below_drawn (Below.refl wr.heap.size wr) i)
            have hoP := fun i => (hoq i).alloc (.cells #[.string p.p] 9)
            have hnP := fun i => at_new (enc := encS) (wr.drewN i) encS_len [p.p] 9 #[.string p.p] rfl (by unfold maxLen; simp)
            have hsw := hbw.size
            have hge := own_ge ho
            go_wp2_with fail
            first | (go_quiet (fail)) | fail
            go_wp2_with fail
            first | (go_quiet (fail)) | fail
            clear hbw ho
            go_wp2_with (at_builtin; refine wpList_append_at _ rfl _ _ 47 rfl w.heap.size 9 i0 (.string ByteArray.empty) 1 16 Tryd.underlying47 hi0 hj0 hj1 hj2 rfl (by decide) _ ys.length _ rfl (hoP _) encS_len encS_one _ 1 1 [p.p] rfl rfl (hnP _) (by unfold maxLen; omega) (by omega) (by first | omega | (rw [World.size_alloc]; show _ ≤ wr.heap.size + 1; omega)) ?_; intro v3 w3 ho3 hg3 hv3)
            go_roundw
            case rel => exact ⟨a + 1, b + 1, ys ++ [p.p], by first | rfl | go_num, by first | rfl | go_num, by omega, by omega, by simp; omega, HN.out, by rw [List.length_append, List.flatMap_append]; exact ho3, below_app (w := w) (below_alloc (bwq _) _) hg3 hge⟩
            case measure => simp [intOf]; omega
      · have hdb : decide ((b : Int) < (m : Int)) = false := decide_eq_false (by omega)
        have heb : ((b : Int) == (m : Int)) = true := by simp; omega
        obtain rfl : m = b := by omega
        have HN := Lib.hid (show ys ++ [p.p] ++ mrg l ks (a + 1) m = mrg l ks 0 0 by rw [← HY.out, mrg_left HK.out HP.out]; simp)
        have bwq := fun i => (below_drawn hbw i)
        have hoq := fun i => own_belowS ho (below_drawn (Below.refl wr.heap.size wr) i)
        have hoP := fun i => (hoq i).alloc (.cells #[.string p.p] 9)
        have hnP := fun i => at_new (enc := encS) (wr.drewN i) encS_len [p.p] 9 #[.string p.p] rfl (by unfold maxLen; simp)
        have hsw := hbw.size
        have hge := own_ge ho
        go_wp2_with fail
        first | (go_quiet (fail)) | fail
        clear hbw ho
        go_wp2_with (at_builtin; refine wpList_append_at _ rfl _ _ 47 rfl w.heap.size 9 i0 (.string ByteArray.empty) 1 16 Tryd.underlying47 hi0 hj0 hj1 hj2 rfl (by decide) _ ys.length _ rfl (hoP _) encS_len encS_one _ 1 1 [p.p] rfl rfl (hnP _) (by unfold maxLen; omega) (by omega) (by first | omega | (rw [World.size_alloc]; show _ ≤ wr.heap.size + 1; omega)) ?_; intro v3 w3 ho3 hg3 hv3)
        go_roundw
        case rel => exact ⟨a + 1, m, ys ++ [p.p], by first | rfl | go_num, by first | rfl | go_num, by omega, by omega, by simp; omega, HN.out, by rw [List.length_append, List.flatMap_append]; exact ho3, below_app (w := w) (below_alloc (bwq _) _) hg3 hge⟩
        case measure => simp [intOf]; omega
    · have hda : decide ((a : Int) < (n : Int)) = false := decide_eq_false (by omega)
      have hea : ((a : Int) == (n : Int)) = true := by simp; omega
      obtain rfl : n = a := by omega
      by_cases hltb : b < m
      · have hlb : b < ks.length := by rw [HK.out]; exact hltb
        have hdb : decide ((b : Int) < (m : Int)) = true := decide_eq_true (by omega)
        have heb : ((b : Int) == (m : Int)) = false := by simp; omega
        have hidxb := fun W => run_index_any (c := d) Tryd.underlying27 hin hzn1 (hb.addr (by omega)) hltb W
        obtain ⟨q, hq⟩ : ∃ q, ks[b] = q := ⟨_, rfl⟩
        have HQ := Lib.hid (show ks[b]? = some q by rw [List.getElem?_eq_getElem hlb, hq])
        obtain ⟨b0, b1, b2⟩ := at3 (hb.belowS hbw) hlb hq
        clear hq
        have HN := Lib.hid (show ys ++ [q.p] ++ mrg l ks n (b + 1) = mrg l ks 0 0 by rw [← HY.out, mrg_right HL.out HQ.out]; simp)
        have bwq := fun i => (below_drawn hbw i)
        have hoq := fun i => own_belowS ho (below_drawn (Below.refl wr.heap.size wr) i)
        have hoP := fun i => (hoq i).alloc (.cells #[.string q.p] 9)
        have hnP := fun i => at_new (enc := encS) (wr.drewN i) encS_len [q.p] 9 #[.string q.p] rfl (by unfold maxLen; simp)
        have hsw := hbw.size
        have hge := own_ge ho
        go_wp2_with fail
        first | (go_quiet (fail)) | fail
        go_wp2_with fail
        first | (go_quiet (fail)) | fail
        clear hbw ho
        go_wp2_with (at_builtin; refine wpList_append_at _ rfl _ _ 47 rfl w.heap.size 9 i0 (.string ByteArray.empty) 1 16 Tryd.underlying47 hi0 hj0 hj1 hj2 rfl (by decide) _ ys.length _ rfl (hoP _) encS_len encS_one _ 1 1 [q.p] rfl rfl (hnP _) (by unfold maxLen; omega) (by omega) (by first | omega | (rw [World.size_alloc]; show _ ≤ wr.heap.size + 1; omega)) ?_; intro v3 w3 ho3 hg3 hv3)
        go_roundw
        case rel => exact ⟨n, b + 1, ys ++ [q.p], by first | rfl | go_num, by first | rfl | go_num, by omega, by omega, by simp; omega, HN.out, by rw [List.length_append, List.flatMap_append]; exact ho3, below_app (w := w) (below_alloc (bwq _) _) hg3 hge⟩
        case measure => simp [intOf]; omega
      · have hdb : decide ((b : Int) < (m : Int)) = false := decide_eq_false (by omega)
        have heb : ((b : Int) == (m : Int)) = true := by simp; omega
        obtain rfl : m = b := by omega
        have HN := Lib.hid (show ys = mergeP l ks by have := HY.out; rw [mrg_end HL.out HK.out, List.append_nil] at this; exact this)
        go_wp2_with fail
        go_ret
        exact OutR.of rfl HN.out ho hbw

theorem chg_snoc {l ks : List Nod} {ps : List ByteArray} {k : Nat} {p : ByteArray} (h : ps[k]? = some p) : (ps.take (k + 1)).filter (chgB l ks) = (ps.take k).filter (chgB l ks) ++ (if chgB l ks p then [p] else []) := by
  obtain ⟨hd, rfl⟩ := List.getElem?_eq_some_iff.1 h
  rw [List.take_succ_eq_append_getElem hd, List.filter_append]
  congr 1
  cases h : chgB l ks ps[k] <;> simp [h]
theorem chgB_of {l ks : List Nod} {p : ByteArray} {x y z u : Int} (h : getN l p.data.toList = (x, y)) (k : getN ks p.data.toList = (z, u)) : chgB l ks p = !(x == z && y == u) := by
  unfold chgB
  rw [h, k, Bool.eq_iff_iff]; simp

set_option maxHeartbeats 2000000 in
theorem specChanged_any (A : Option Addr) (n c : Nat) (l : List Nod) (B : Option Addr) (m d : Nat) (ks : List Nod) (w : World) (hn : n ≤ 1048576) (hm' : m ≤ 1048576) (hl : l.length = n) (hk : ks.length = m) (ha : At encN 3 w A l) (hb : At encN 3 w B ks) (hz : ∀ q ∈ l, q.p.size ≤ 1048576) (hzk : ∀ q ∈ ks, q.p.size ≤ 1048576) :
    Calls Tryd.prog 23 #[.slice A n c, .slice B m d] w (OutR encS 1 9 (ChgR l ks) w) := by
  obtain ⟨n0, hin, hzn0, hzn1, hzn2⟩ := info_parts infoN
  obtain ⟨i0, hi0, hj0, hj1, hj2⟩ := info_parts infoStr
  have HL := Lib.hid hl
  have HK := Lib.hid hk
  clear hl hk
  have bw0 := below_alloc (Below.refl w.heap.size w) (.cells #[] 9)
  have ho0 := World.ownsRow_lit (base := w.heap.size) (e := 9) (size := 1) w #[] 0 (Nat.le_refl _) (by decide) rfl
  go_enter Tryd.func23, Tryd.ntmps23
  go_wp2_with fail
  refine (specTree_any A n c l _ (by omega) HL.out (ha.belowS bw0) hz).mono ?_
  rintro e w1 ⟨b1, rfl, hb1', hb1⟩
  have bw1 := below_step bw0 hb1
  have HB1 := Lib.hid hb1'
  clear hb1'
  cases b1 with
  | false =>
    have HN := Lib.hid (show ChgR l ks [] from .inr ⟨fun h => (by have := HB1.out.2 h.1; cases this), rfl⟩)
    go_wp2_with fail
    go_ret
    exact OutR.of (n := 0) rfl HN.out (own_belowS ho0 hb1) bw1
  | true =>
    have ho1 := own_belowS ho0 hb1
    go_wp2_with fail
    refine (specTree_any B m d ks _ (by omega) HK.out (hb.belowS bw1) hzk).mono ?_
    rintro e w2 ⟨b2, rfl, hb2', hb2⟩
    have bw2 := below_step bw1 hb2
    have HB2 := Lib.hid hb2'
    clear hb2'
    cases b2 with
    | false =>
      have HN := Lib.hid (show ChgR l ks [] from .inr ⟨fun h => (by have := HB2.out.2 h.2; cases this), rfl⟩)
      go_wp2_with fail
      go_ret
      exact OutR.of (n := 0) rfl HN.out (own_belowS ho1 hb2) bw2
    | true =>
      have ho2 := own_belowS ho1 hb2
      have HG := Lib.hid (show TreeP l ∧ TreeP ks from ⟨HB1.out.1 (by first | rfl | trivial), HB2.out.1 (by first | rfl | trivial)⟩)
      go_wp2_with fail
      refine (specPaths_any A n c l B m d ks _ hn hm' HL.out HK.out (ha.belowS bw2) (hb.belowS bw2)).mono ?_
      rintro e w3 ⟨A3, c3, ps, rfl, hps, hop, hb3⟩
      have bw3 := below_step bw2 hb3
      have ho3 := own_belowS ho2 hb3
      have HPS := Lib.hid (show ps = mergeP l ks from hps)
      obtain ⟨N, hN⟩ : ∃ N, ps.length = N := ⟨_, rfl⟩
      have HNN := Lib.hid hN
      have hNb : N ≤ n + m := by rw [← hN, hps, ← HL.out, ← HK.out]; exact merge_len _ l ks (Nat.le_refl _)
      have HNE0 := Lib.hid (show 0 < N → some (blk A3) ≠ some w.heap.size from fun h he => by
        injection he with he
        have h1 := (own_blk hop (by rw [hN]; exact h)).1
        have s1 := hb1.size
        have s2 := hb2.size
        rw [World.size_alloc] at s1
        omega)
      have hat := own_at encS_len hop rfl
      rw [hN]
      clear hps hop hN
      go_wp2_with fail
      go_loopw [5, 7] (fun v i wr => ∃ (k : Nat) (ys : List ByteArray), i = .int .i64 k ∧ k ≤ N ∧ ys.length ≤ k ∧ Hid (ys = (ps.take k).filter (chgB l ks)) ∧ wr.ownsRow w.heap.size 9 1 v ys.length (ys.flatMap encS) ∧ At encS 1 wr A3 ps ∧ Hid (0 < N → some (blk A3) ≠ v.ownBlock) ∧ Below w.heap.size w wr) (fun _ i _ => N - (intOf i).toNat)
      case atStart => exact ⟨0, [], rfl, Nat.zero_le _, Nat.le_refl _, Lib.hid (by simp), ho3, hat, Lib.hid HNE0.out, bw3⟩
      case round =>
        clear ho3 hat bw3
        obtain ⟨k, ys, rfl, hk, hys, HY, ho, hat, HNE, hbw⟩ := hrel
        by_cases hlt : k < N
        · have hlk : k < ps.length := by rw [HNN.out]; exact hlt
          have hidx := fun W => run_index_one (c := c3) Tryd.underlying47 hi0 hj1 (hat.addr (by omega)) hlt W
          obtain ⟨p, hp⟩ : ∃ p, ps[k] = p := ⟨_, rfl⟩
          have HP := Lib.hid (show ps[k]? = some p by rw [List.getElem?_eq_getElem hlk, hp])
          have c0 := hat.cell1 hlk (u := .string p) (by rw [hp]; rfl)
          obtain ⟨⟨x, y⟩, hga⟩ : ∃ g, getN l p.data.toList = g := ⟨_, rfl⟩
          have HGA := Lib.hid hga
          obtain ⟨⟨z, u⟩, hgb⟩ : ∃ g, getN ks p.data.toList = g := ⟨_, rfl⟩
          have HGB := Lib.hid hgb
          obtain ⟨r, hr⟩ : ∃ r, (x == z && y == u) = r := ⟨_, rfl⟩
          have HR := Lib.hid hr
          clear hp hga hgb
          have e0 : wr.drew.cell? ⟨blk A3, off A3 + k, none⟩ = some (.string p) := c0
          have bw1 : Below w.heap.size w wr.drew := hbw.drew
          cases r with
          | true =>
            have GA := fun (W : World) (h : At encN 3 W A l) => specGet_any A n c l p W (by omega) HL.out h
            have GB := fun (W : World) (h : At encN 3 W B ks) => specGet_any B m d ks p W (by omega) HK.out h
            go_upto_region 8 with fail
            obtain ⟨C, hC⟩ : ∃ C : World → Prop, C = fun w' => w'.cell? ⟨blk A3, off A3 + k, none⟩ = some (.string p) ∧ Below (wr.drew).heap.size (wr.drew) w' := ⟨_, rfl⟩
            have HC1 := Lib.hid (show ∀ w', C w' → w'.cell? ⟨blk A3, off A3 + k, none⟩ = some (.string p) ∧ Below (wr.drew).heap.size (wr.drew) w' by rw [hC]; exact fun _ h => h)
            have HC2 := Lib.hid (show ∀ w', w'.cell? ⟨blk A3, off A3 + k, none⟩ = some (.string p) ∧ Below (wr.drew).heap.size (wr.drew) w' → C w' by rw [hC]; exact fun _ h => h)
            clear hC
            refine region_class C (by kernel_rfl) (by kernel_rfl) (HC2.out _ ⟨e0, Below.refl _ _⟩) ?_
            repeat (first
              | go_big_quiet_skip
              | (go_big_quiet_want; go_big_quiet_op; first
                  | go_big_quiet_on
                  | (apply Exists.intro; refine ⟨?_, ?_⟩; (rintro ⟨w', hw'⟩; with_reducible rfl); go_big_quiet_on)
                  | (apply Exists.intro; refine ⟨fun w' hw' => ?_, ?_⟩; (obtain ⟨k0, kb⟩ := HC1.out w' hw'; (with_reducible rfl)); go_big_quiet_on)
                  | (apply Exists.intro; refine ⟨fun w' hw' => ?_, ?_⟩; (obtain ⟨k0, kb⟩ := HC1.out w' hw'; (go_at_call 24; refine (GA _ (ha.belowS (below_step bw1 kb))).mono ?_; rintro e w2 ⟨x', y', rfl, hget, hb⟩; obtain ⟨rfl, rfl⟩ := Prod.mk.inj (HGA.out.symm.trans hget); exact ⟨rfl, HC2.out _ ⟨cell_later hb k0, below_step kb hb⟩⟩)); clear GA; go_big_quiet_on)
                  | (apply Exists.intro; refine ⟨fun w' hw' => ?_, ?_⟩; (obtain ⟨k0, kb⟩ := HC1.out w' hw'; (go_at_call 24; refine (GB _ (hb.belowS (below_step bw1 kb))).mono ?_; rintro e w2 ⟨x', y', rfl, hget, hb⟩; obtain ⟨rfl, rfl⟩ := Prod.mk.inj (HGB.out.symm.trans hget); exact ⟨rfl, HC2.out _ ⟨cell_later hb k0, below_step kb hb⟩⟩)); clear GB; go_big_quiet_on)
                  | (apply Exists.intro; refine ⟨fun w' hw' => ?_, ?_⟩; (obtain ⟨k0, kb⟩ := HC1.out w' hw'; ((first | rw [if2_yes HR.out] | rw [if2_no HR.out]); exact ⟨rfl, rfl⟩)); go_big_quiet_on)
                  | (apply Exists.intro; refine ⟨fun w' hw' => ?_, ?_⟩; (obtain ⟨k0, kb⟩ := HC1.out w' hw'; (go_simp; with_reducible rfl)); go_big_quiet_on)))
            refine wpQuiet_nil ?_
            intro w3 hw3
            obtain ⟨k0, kb⟩ := HC1.out w3 hw3
            clear HC1 HC2 hw3
            have bw5 := below_step bw1 kb
            have hd5 := below_step (Below.refl wr.heap.size wr).drew kb
            have ho5 := own_belowS ho hd5
            have hat5 := hat.belowS hd5
            have hlt3 : 0 < N → blk A3 < w3.heap.size := fun h => Nat.lt_of_lt_of_le (hat.lt (by rw [HNN.out]; exact h)) hd5.size
            have hs5 := bw5.size
            clear e0 c0 ho hat hbw kb bw1 hd5
            have HN := Lib.hid (show ys = (ps.take (k + 1)).filter (chgB l ks) by rw [chg_snoc HP.out, chgB_of HGA.out HGB.out, HR.out, ← HY.out]; simp)
            go_wp2_with fail
            go_roundw
            case rel => exact ⟨k + 1, ys, by go_num, by omega, by omega, HN, ho5, hat5, HNE, bw5⟩
            case measure => simp [intOf]; omega
          | false =>
            have GA := fun (W : World) (h : At encN 3 W A l) => specGet_any A n c l p W (by omega) HL.out h
            have GB := fun (W : World) (h : At encN 3 W B ks) => specGet_any B m d ks p W (by omega) HK.out h
            go_upto_region 8 with fail
            obtain ⟨C, hC⟩ : ∃ C : World → Prop, C = fun w' => w'.cell? ⟨blk A3, off A3 + k, none⟩ = some (.string p) ∧ Below (wr.drew).heap.size (wr.drew) w' := ⟨_, rfl⟩
            have HC1 := Lib.hid (show ∀ w', C w' → w'.cell? ⟨blk A3, off A3 + k, none⟩ = some (.string p) ∧ Below (wr.drew).heap.size (wr.drew) w' by rw [hC]; exact fun _ h => h)
            have HC2 := Lib.hid (show ∀ w', w'.cell? ⟨blk A3, off A3 + k, none⟩ = some (.string p) ∧ Below (wr.drew).heap.size (wr.drew) w' → C w' by rw [hC]; exact fun _ h => h)
            clear hC
            refine region_class C (by kernel_rfl) (by kernel_rfl) (HC2.out _ ⟨e0, Below.refl _ _⟩) ?_
            repeat (first
              | go_big_quiet_skip
              | (go_big_quiet_want; go_big_quiet_op; first
                  | go_big_quiet_on
                  | (apply Exists.intro; refine ⟨?_, ?_⟩; (rintro ⟨w', hw'⟩; with_reducible rfl); go_big_quiet_on)
                  | (apply Exists.intro; refine ⟨fun w' hw' => ?_, ?_⟩; (obtain ⟨k0, kb⟩ := HC1.out w' hw'; (with_reducible rfl)); go_big_quiet_on)
                  | (apply Exists.intro; refine ⟨fun w' hw' => ?_, ?_⟩; (obtain ⟨k0, kb⟩ := HC1.out w' hw'; (go_at_call 24; refine (GA _ (ha.belowS (below_step bw1 kb))).mono ?_; rintro e w2 ⟨x', y', rfl, hget, hb⟩; obtain ⟨rfl, rfl⟩ := Prod.mk.inj (HGA.out.symm.trans hget); exact ⟨rfl, HC2.out _ ⟨cell_later hb k0, below_step kb hb⟩⟩)); clear GA; go_big_quiet_on)
                  | (apply Exists.intro; refine ⟨fun w' hw' => ?_, ?_⟩; (obtain ⟨k0, kb⟩ := HC1.out w' hw'; (go_at_call 24; refine (GB _ (hb.belowS (below_step bw1 kb))).mono ?_; rintro e w2 ⟨x', y', rfl, hget, hb⟩; obtain ⟨rfl, rfl⟩ := Prod.mk.inj (HGB.out.symm.trans hget); exact ⟨rfl, HC2.out _ ⟨cell_later hb k0, below_step kb hb⟩⟩)); clear GB; go_big_quiet_on)
                  | (apply Exists.intro; refine ⟨fun w' hw' => ?_, ?_⟩; (obtain ⟨k0, kb⟩ := HC1.out w' hw'; ((first | rw [if2_yes HR.out] | rw [if2_no HR.out]); exact ⟨rfl, rfl⟩)); go_big_quiet_on)
                  | (apply Exists.intro; refine ⟨fun w' hw' => ?_, ?_⟩; (obtain ⟨k0, kb⟩ := HC1.out w' hw'; (go_simp; with_reducible rfl)); go_big_quiet_on)))
            refine wpQuiet_nil ?_
            intro w3 hw3
            obtain ⟨k0, kb⟩ := HC1.out w3 hw3
            clear HC1 HC2 hw3
            have bw5 := below_step bw1 kb
            have hd5 := below_step (Below.refl wr.heap.size wr).drew kb
            have ho5 := own_belowS ho hd5
            have hat5 := hat.belowS hd5
            have hlt3 : 0 < N → blk A3 < w3.heap.size := fun h => Nat.lt_of_lt_of_le (hat.lt (by rw [HNN.out]; exact h)) hd5.size
            have hs5 := bw5.size
            clear e0 c0 ho hat hbw kb bw1 hd5
            have HN := Lib.hid (show ys ++ [p] = (ps.take (k + 1)).filter (chgB l ks) by rw [chg_snoc HP.out, chgB_of HGA.out HGB.out, HR.out, ← HY.out]; simp)
            have hoP := ho5.alloc (.cells #[.string p] 9)
            have hnP := at_new (enc := encS) w3 encS_len [p] 9 #[.string p] rfl (by unfold maxLen; simp)
            go_wp2_with (at_builtin; refine wpList_append_at _ rfl _ _ 47 rfl w.heap.size 9 i0 (.string ByteArray.empty) 1 16 Tryd.underlying47 hi0 hj0 hj1 hj2 rfl (by decide) _ ys.length _ rfl hoP encS_len encS_one _ 1 1 [p] rfl rfl hnP (by unfold maxLen; omega) (by omega) (by first | omega | (rw [World.size_alloc]; omega)) ?_; intro v3 w6 ho6 hg6 hv6)
            go_roundw
            case rel => exact ⟨k + 1, ys ++ [p], by go_num, by omega, by simp; omega, HN, by rw [List.length_append, List.flatMap_append]; exact ho6, (hat5.belowS (below_alloc (Below.refl w3.heap.size w3) (.cells #[.string p] 9))).grown hg6 (fun h => HNE.out (by rw [← HNN.out]; exact h)), Lib.hid (fun h => by rcases hv6 with hv | hv; (rw [hv]; exact HNE.out h); (rw [hv]; intro he; injection he with he; have := hlt3 h; rw [World.size_alloc] at he; omega)), below_app (w := w) (below_alloc bw5 _) hg6 (own_ge ho5)⟩
            case measure => simp [intOf]; omega
        · obtain rfl : N = k := by omega
          have HN := Lib.hid (show ChgR l ks ys from .inl ⟨HG.out, by rw [HY.out, List.take_of_length_le (by rw [HNN.out]; exact Nat.le_refl _), HPS.out]; rfl⟩)
          go_wp2_with fail
          go_ret
          exact OutR.of rfl HN.out ho hbw

set_option maxHeartbeats 2000000 in
theorem implChanged_any (A : Option Addr) (n c : Nat) (l : List Nod) (B : Option Addr) (m d : Nat) (ks : List Nod) (w : World) (hn : n ≤ 1048576) (hm' : m ≤ 1048576) (hl : l.length = n) (hk : ks.length = m) (ha : At encN 3 w A l) (hb : At encN 3 w B ks) (hz : ∀ q ∈ l, q.p.size ≤ 1048576) (hzk : ∀ q ∈ ks, q.p.size ≤ 1048576) (hm : MaxAt w) :
    Calls Tryd.prog 28 #[.slice A n c, .slice B m d] w (OutR encS 1 9 (ChgR l ks) w) := by
  obtain ⟨n0, hin, hzn0, hzn1, hzn2⟩ := info_parts infoN
  obtain ⟨i0, hi0, hj0, hj1, hj2⟩ := info_parts infoStr
  have HL := Lib.hid hl
  have HK := Lib.hid hk
  clear hl hk
  have HMX := Lib.hid hm
  clear hm
  go_enter Tryd.func28, Tryd.ntmps28
  go_wp2_with fail
  refine (implTree_any A n c l _ (by omega) HL.out ha hz HMX.out).mono ?_
  rintro e w1 ⟨b1, rfl, hb1', hb1⟩
  have bw1 := below_step (Below.refl w.heap.size w) hb1
  have HB1 := Lib.hid hb1'
  clear hb1'
  cases b1 with
  | false =>
    have HN := Lib.hid (show ChgR l ks [] from .inr ⟨fun h => (by have := HB1.out.2 h.1; cases this), rfl⟩)
    go_wp2_with fail
    go_ret
    exact OutR.nil HN.out bw1
  | true =>
    go_wp2_with fail
    refine (implTree_any B m d ks _ (by omega) HK.out (hb.belowS bw1) hzk (HMX.out.belowS bw1)).mono ?_
    rintro e w2 ⟨b2, rfl, hb2', hb2⟩
    have bw2 := below_step bw1 hb2
    have HB2 := Lib.hid hb2'
    clear hb2'
    cases b2 with
    | false =>
      have HN := Lib.hid (show ChgR l ks [] from .inr ⟨fun h => (by have := HB2.out.2 h.2; cases this), rfl⟩)
      go_wp2_with fail
      go_ret
      exact OutR.nil HN.out bw2
    | true =>
      have HG := Lib.hid (show TreeP l ∧ TreeP ks from ⟨HB1.out.1 (by first | rfl | trivial), HB2.out.1 (by first | rfl | trivial)⟩)
      clear HB1 HB2
      go_wp2_with fail
      go_loopw [5, 6, 7] (fun v i k wr => ∃ (a b : Nat) (ys : List ByteArray), i = .int .i64 a ∧ k = .int .i64 b ∧ a ≤ n ∧ b ≤ m ∧ ys.length ≤ a + b ∧ ys ++ (mrg l ks a b).filter (chgB l ks) = (mrg l ks 0 0).filter (chgB l ks) ∧ wr.ownsRow w.heap.size 9 1 v ys.length (ys.flatMap encS) ∧ Below w.heap.size w wr) (fun _ i k _ => (n - (intOf i).toNat) + (m - (intOf k).toNat))
      case atStart => exact ⟨0, 0, [], rfl, rfl, Nat.zero_le _, Nat.zero_le _, Nat.le_refl _, rfl, World.ownsRow_nil _ _ _ _, bw2⟩
      case round =>
        obtain ⟨a, b, ys, rfl, rfl, hka, hkb, hys, HY', ho, hbw⟩ := hrel
        have HY := Lib.hid HY'
        clear HY'

        by_cases hlt : a < n
        · have hla : a < l.length := by rw [HL.out]; exact hlt
          have hda : decide ((a : Int) < (n : Int)) = true := decide_eq_true (by omega)
          have hea : ((a : Int) == (n : Int)) = false := by simp; omega
          have hidxa := fun W => run_index_any (c := c) Tryd.underlying27 hin hzn1 (ha.addr (by omega)) hlt W
          obtain ⟨p, hp⟩ : ∃ p, l[a] = p := ⟨_, rfl⟩
          have HP := Lib.hid (show l[a]? = some p by rw [List.getElem?_eq_getElem hla, hp])
          obtain ⟨a0, a1, a2⟩ := at3 (ha.belowS hbw) hla hp
          clear hp
          by_cases hltb : b < m
          · have hlb : b < ks.length := by rw [HK.out]; exact hltb
            have hdb : decide ((b : Int) < (m : Int)) = true := decide_eq_true (by omega)
            have heb : ((b : Int) == (m : Int)) = false := by simp; omega
            have hidxb := fun W => run_index_any (c := d) Tryd.underlying27 hin hzn1 (hb.addr (by omega)) hltb W
            obtain ⟨q, hq⟩ : ∃ q, ks[b] = q := ⟨_, rfl⟩
            have HQ := Lib.hid (show ks[b]? = some q by rw [List.getElem?_eq_getElem hlb, hq])
            obtain ⟨b0, b1, b2⟩ := at3 (hb.belowS hbw) hlb hq
            clear hq
            obtain ⟨r1, hr1⟩ : ∃ r1, Op.bytesLess p.s q.s = r1 := ⟨_, rfl⟩
            have HR1 := Lib.hid hr1
            have hl1 : Op.bytesLess p.p.toList q.p.toList = r1 := by rw [toList_is rfl, toList_is rfl]; exact hr1
            obtain ⟨r2, hr2⟩ : ∃ r2, Op.bytesLess q.s p.s = r2 := ⟨_, rfl⟩
            have HR2 := Lib.hid hr2
            have hl2 : Op.bytesLess q.p.toList p.p.toList = r2 := by rw [toList_is rfl, toList_is rfl]; exact hr2
            clear hr1 hr2
            cases r1 with
            | true =>
              have HM := Lib.hid (show ys ++ (p.p :: mrg l ks (a + 1) (b)).filter (chgB l ks) = (mrg l ks 0 0).filter (chgB l ks) by rw [← HY.out, mrg_lt HP.out HQ.out HR1.out])
              have bwq := fun i => (below_drawn hbw i)
              have hoq := fun i => own_belowS ho (below_drawn (Below.refl wr.heap.size wr) i)
              go_wp2_with fail
              first | (go_quiet (fail)) | fail
              clear hbw ho
              go_wp2_with fail
              refine (implGet_any A n c l p.p _ (by omega) HL.out (ha.belowS (bwq _))).mono ?_
              rintro e w4 ⟨x1, y1, rfl, hga, hb4⟩
              have HGA := Lib.hid hga
              have bw4 := below_step (bwq _) hb4
              have ho4 := own_belowS (hoq _) hb4
              clear hga
              go_wp2_with fail
              refine (implGet_any B m d ks p.p _ (by omega) HK.out (hb.belowS bw4)).mono ?_
              rintro e w5 ⟨x2, y2, rfl, hgb, hb5⟩
              have HGB := Lib.hid hgb
              have bw5 := below_step bw4 hb5
              have ho5 := own_belowS ho4 hb5
              have hs5 := bw5.size
              clear hgb
              by_cases hx : x1 = x2
              · by_cases hy : y1 = y2
                · subst hx
                  subst hy
                  have HN := Lib.hid (show ys ++ (mrg l ks (a + 1) (b)).filter (chgB l ks) = (mrg l ks 0 0).filter (chgB l ks) by rw [← HM.out, List.filter_cons_of_neg (by rw [chgB_of HGA.out HGB.out]; simp)])
                  go_wp2_with fail
                  go_roundw
                  case rel => exact ⟨a + 1, b, ys, by first | rfl | go_num, by first | rfl | go_num, by omega, by omega, by omega, HN.out, ho5, bw5⟩
                  case measure => simp [intOf]; omega
                · subst hx
                  have HN := Lib.hid (show ys ++ [p.p] ++ (mrg l ks (a + 1) (b)).filter (chgB l ks) = (mrg l ks 0 0).filter (chgB l ks) by rw [← HM.out, List.filter_cons_of_pos (by rw [chgB_of HGA.out HGB.out]; simp [hy])]; simp)
                  have hoP := ho5.alloc (.cells #[.string p.p] 9)
                  have hnP := at_new (enc := encS) w5 encS_len [p.p] 9 #[.string p.p] rfl (by unfold maxLen; simp)
                  go_wp2_with (at_builtin; refine wpList_append_at _ rfl _ _ 47 rfl w.heap.size 9 i0 (.string ByteArray.empty) 1 16 Tryd.underlying47 hi0 hj0 hj1 hj2 rfl (by decide) _ ys.length _ rfl hoP encS_len encS_one _ 1 1 [p.p] rfl rfl hnP (by unfold maxLen; omega) (by omega) (by first | omega | (rw [World.size_alloc]; omega)) ?_; intro v3 w6 ho6 hg6 hv6)
                  go_roundw
                  case rel => exact ⟨a + 1, b, ys ++ [p.p], by first | rfl | go_num, by first | rfl | go_num, by omega, by omega, by simp; omega, HN.out, by rw [List.length_append, List.flatMap_append]; exact ho6, below_app (w := w) (below_alloc bw5 _) hg6 (own_ge ho5)⟩
                  case measure => simp [intOf]; omega
              · have HN := Lib.hid (show ys ++ [p.p] ++ (mrg l ks (a + 1) (b)).filter (chgB l ks) = (mrg l ks 0 0).filter (chgB l ks) by rw [← HM.out, List.filter_cons_of_pos (by rw [chgB_of HGA.out HGB.out]; simp [hx])]; simp)
                have hoP := ho5.alloc (.cells #[.string p.p] 9)
                have hnP := at_new (enc := encS) w5 encS_len [p.p] 9 #[.string p.p] rfl (by unfold maxLen; simp)
                go_wp2_with (at_builtin; refine wpList_append_at _ rfl _ _ 47 rfl w.heap.size 9 i0 (.string ByteArray.empty) 1 16 Tryd.underlying47 hi0 hj0 hj1 hj2 rfl (by decide) _ ys.length _ rfl hoP encS_len encS_one _ 1 1 [p.p] rfl rfl hnP (by unfold maxLen; omega) (by omega) (by first | omega | (rw [World.size_alloc]; omega)) ?_; intro v3 w6 ho6 hg6 hv6)
                go_roundw
                case rel => exact ⟨a + 1, b, ys ++ [p.p], by first | rfl | go_num, by first | rfl | go_num, by omega, by omega, by simp; omega, HN.out, by rw [List.length_append, List.flatMap_append]; exact ho6, below_app (w := w) (below_alloc bw5 _) hg6 (own_ge ho5)⟩
                case measure => simp [intOf]; omega
            | false =>
              cases r2 with
              | true =>
                have HM := Lib.hid (show ys ++ (q.p :: mrg l ks (a) (b + 1)).filter (chgB l ks) = (mrg l ks 0 0).filter (chgB l ks) by rw [← HY.out, mrg_gt HP.out HQ.out HR1.out HR2.out])
                have bwq := fun i => (below_drawn hbw i)
                have hoq := fun i => own_belowS ho (below_drawn (Below.refl wr.heap.size wr) i)
                go_wp2_with fail
                first | (go_quiet (fail)) | fail
                go_wp2_with fail
                first | (go_quiet (fail)) | fail
                clear hbw ho
                go_wp2_with fail
                refine (implGet_any A n c l q.p _ (by omega) HL.out (ha.belowS (bwq _))).mono ?_
                rintro e w4 ⟨x1, y1, rfl, hga, hb4⟩
                have HGA := Lib.hid hga
                have bw4 := below_step (bwq _) hb4
                have ho4 := own_belowS (hoq _) hb4
                clear hga
                go_wp2_with fail
                refine (implGet_any B m d ks q.p _ (by omega) HK.out (hb.belowS bw4)).mono ?_
                rintro e w5 ⟨x2, y2, rfl, hgb, hb5⟩
                have HGB := Lib.hid hgb
                have bw5 := below_step bw4 hb5
                have ho5 := own_belowS ho4 hb5
                have hs5 := bw5.size
                clear hgb
                by_cases hx : x1 = x2
                · by_cases hy : y1 = y2
                  · subst hx
                    subst hy
                    have HN := Lib.hid (show ys ++ (mrg l ks (a) (b + 1)).filter (chgB l ks) = (mrg l ks 0 0).filter (chgB l ks) by rw [← HM.out, List.filter_cons_of_neg (by rw [chgB_of HGA.out HGB.out]; simp)])
                    go_wp2_with fail
                    go_roundw
                    case rel => exact ⟨a, b + 1, ys, by first | rfl | go_num, by first | rfl | go_num, by omega, by omega, by omega, HN.out, ho5, bw5⟩
                    case measure => simp [intOf]; omega
                  · subst hx
                    have HN := Lib.hid (show ys ++ [q.p] ++ (mrg l ks (a) (b + 1)).filter (chgB l ks) = (mrg l ks 0 0).filter (chgB l ks) by rw [← HM.out, List.filter_cons_of_pos (by rw [chgB_of HGA.out HGB.out]; simp [hy])]; simp)
                    have hoP := ho5.alloc (.cells #[.string q.p] 9)
                    have hnP := at_new (enc := encS) w5 encS_len [q.p] 9 #[.string q.p] rfl (by unfold maxLen; simp)
                    go_wp2_with (at_builtin; refine wpList_append_at _ rfl _ _ 47 rfl w.heap.size 9 i0 (.string ByteArray.empty) 1 16 Tryd.underlying47 hi0 hj0 hj1 hj2 rfl (by decide) _ ys.length _ rfl hoP encS_len encS_one _ 1 1 [q.p] rfl rfl hnP (by unfold maxLen; omega) (by omega) (by first | omega | (rw [World.size_alloc]; omega)) ?_; intro v3 w6 ho6 hg6 hv6)
                    go_roundw
                    case rel => exact ⟨a, b + 1, ys ++ [q.p], by first | rfl | go_num, by first | rfl | go_num, by omega, by omega, by simp; omega, HN.out, by rw [List.length_append, List.flatMap_append]; exact ho6, below_app (w := w) (below_alloc bw5 _) hg6 (own_ge ho5)⟩
                    case measure => simp [intOf]; omega
                · have HN := Lib.hid (show ys ++ [q.p] ++ (mrg l ks (a) (b + 1)).filter (chgB l ks) = (mrg l ks 0 0).filter (chgB l ks) by rw [← HM.out, List.filter_cons_of_pos (by rw [chgB_of HGA.out HGB.out]; simp [hx])]; simp)
                  have hoP := ho5.alloc (.cells #[.string q.p] 9)
                  have hnP := at_new (enc := encS) w5 encS_len [q.p] 9 #[.string q.p] rfl (by unfold maxLen; simp)
                  go_wp2_with (at_builtin; refine wpList_append_at _ rfl _ _ 47 rfl w.heap.size 9 i0 (.string ByteArray.empty) 1 16 Tryd.underlying47 hi0 hj0 hj1 hj2 rfl (by decide) _ ys.length _ rfl hoP encS_len encS_one _ 1 1 [q.p] rfl rfl hnP (by unfold maxLen; omega) (by omega) (by first | omega | (rw [World.size_alloc]; omega)) ?_; intro v3 w6 ho6 hg6 hv6)
                  go_roundw
                  case rel => exact ⟨a, b + 1, ys ++ [q.p], by first | rfl | go_num, by first | rfl | go_num, by omega, by omega, by simp; omega, HN.out, by rw [List.length_append, List.flatMap_append]; exact ho6, below_app (w := w) (below_alloc bw5 _) hg6 (own_ge ho5)⟩
                  case measure => simp [intOf]; omega
              | false =>
                have HM := Lib.hid (show ys ++ (p.p :: mrg l ks (a + 1) (b + 1)).filter (chgB l ks) = (mrg l ks 0 0).filter (chgB l ks) by rw [← HY.out, mrg_eq HP.out HQ.out HR1.out HR2.out])
                have bwq := fun i => (below_drawn hbw i)
                have hoq := fun i => own_belowS ho (below_drawn (Below.refl wr.heap.size wr) i)
                go_wp2_with fail
                first | (go_quiet (fail)) | fail
                go_wp2_with fail
                first | (go_quiet (fail)) | fail
                clear hbw ho
                go_wp2_with fail
                refine (implGet_any A n c l p.p _ (by omega) HL.out (ha.belowS (bwq _))).mono ?_
                rintro e w4 ⟨x1, y1, rfl, hga, hb4⟩
                have HGA := Lib.hid hga
                have bw4 := below_step (bwq _) hb4
                have ho4 := own_belowS (hoq _) hb4
                clear hga
                go_wp2_with fail
                refine (implGet_any B m d ks p.p _ (by omega) HK.out (hb.belowS bw4)).mono ?_
                rintro e w5 ⟨x2, y2, rfl, hgb, hb5⟩
                have HGB := Lib.hid hgb
                have bw5 := below_step bw4 hb5
                have ho5 := own_belowS ho4 hb5
                have hs5 := bw5.size
                clear hgb
                by_cases hx : x1 = x2
                · by_cases hy : y1 = y2
                  · subst hx
                    subst hy
                    have HN := Lib.hid (show ys ++ (mrg l ks (a + 1) (b + 1)).filter (chgB l ks) = (mrg l ks 0 0).filter (chgB l ks) by rw [← HM.out, List.filter_cons_of_neg (by rw [chgB_of HGA.out HGB.out]; simp)])
                    go_wp2_with fail
                    go_roundw
                    case rel => exact ⟨a + 1, b + 1, ys, by first | rfl | go_num, by first | rfl | go_num, by omega, by omega, by omega, HN.out, ho5, bw5⟩
                    case measure => simp [intOf]; omega
                  · subst hx
                    have HN := Lib.hid (show ys ++ [p.p] ++ (mrg l ks (a + 1) (b + 1)).filter (chgB l ks) = (mrg l ks 0 0).filter (chgB l ks) by rw [← HM.out, List.filter_cons_of_pos (by rw [chgB_of HGA.out HGB.out]; simp [hy])]; simp)
                    have hoP := ho5.alloc (.cells #[.string p.p] 9)
                    have hnP := at_new (enc := encS) w5 encS_len [p.p] 9 #[.string p.p] rfl (by unfold maxLen; simp)
                    go_wp2_with (at_builtin; refine wpList_append_at _ rfl _ _ 47 rfl w.heap.size 9 i0 (.string ByteArray.empty) 1 16 Tryd.underlying47 hi0 hj0 hj1 hj2 rfl (by decide) _ ys.length _ rfl hoP encS_len encS_one _ 1 1 [p.p] rfl rfl hnP (by unfold maxLen; omega) (by omega) (by first | omega | (rw [World.size_alloc]; omega)) ?_; intro v3 w6 ho6 hg6 hv6)
                    go_roundw
                    case rel => exact ⟨a + 1, b + 1, ys ++ [p.p], by first | rfl | go_num, by first | rfl | go_num, by omega, by omega, by simp; omega, HN.out, by rw [List.length_append, List.flatMap_append]; exact ho6, below_app (w := w) (below_alloc bw5 _) hg6 (own_ge ho5)⟩
                    case measure => simp [intOf]; omega
                · have HN := Lib.hid (show ys ++ [p.p] ++ (mrg l ks (a + 1) (b + 1)).filter (chgB l ks) = (mrg l ks 0 0).filter (chgB l ks) by rw [← HM.out, List.filter_cons_of_pos (by rw [chgB_of HGA.out HGB.out]; simp [hx])]; simp)
                  have hoP := ho5.alloc (.cells #[.string p.p] 9)
                  have hnP := at_new (enc := encS) w5 encS_len [p.p] 9 #[.string p.p] rfl (by unfold maxLen; simp)
                  go_wp2_with (at_builtin; refine wpList_append_at _ rfl _ _ 47 rfl w.heap.size 9 i0 (.string ByteArray.empty) 1 16 Tryd.underlying47 hi0 hj0 hj1 hj2 rfl (by decide) _ ys.length _ rfl hoP encS_len encS_one _ 1 1 [p.p] rfl rfl hnP (by unfold maxLen; omega) (by omega) (by first | omega | (rw [World.size_alloc]; omega)) ?_; intro v3 w6 ho6 hg6 hv6)
                  go_roundw
                  case rel => exact ⟨a + 1, b + 1, ys ++ [p.p], by first | rfl | go_num, by first | rfl | go_num, by omega, by omega, by simp; omega, HN.out, by rw [List.length_append, List.flatMap_append]; exact ho6, below_app (w := w) (below_alloc bw5 _) hg6 (own_ge ho5)⟩
                  case measure => simp [intOf]; omega
          · have hdb : decide ((b : Int) < (m : Int)) = false := decide_eq_false (by omega)
            have heb : ((b : Int) == (m : Int)) = true := by simp; omega
            obtain rfl : m = b := by omega
            have HM := Lib.hid (show ys ++ (p.p :: mrg l ks (a + 1) m).filter (chgB l ks) = (mrg l ks 0 0).filter (chgB l ks) by rw [← HY.out, mrg_left HK.out HP.out])
            have bwq := fun i => (below_drawn hbw i)
            have hoq := fun i => own_belowS ho (below_drawn (Below.refl wr.heap.size wr) i)
            go_wp2_with fail
            first | (go_quiet (fail)) | fail
            clear hbw ho
            go_wp2_with fail
            refine (implGet_any A n c l p.p _ (by omega) HL.out (ha.belowS (bwq _))).mono ?_
            rintro e w4 ⟨x1, y1, rfl, hga, hb4⟩
            have HGA := Lib.hid hga
            have bw4 := below_step (bwq _) hb4
            have ho4 := own_belowS (hoq _) hb4
            clear hga
            go_wp2_with fail
            refine (implGet_any B m d ks p.p _ (by omega) HK.out (hb.belowS bw4)).mono ?_
            rintro e w5 ⟨x2, y2, rfl, hgb, hb5⟩
            have HGB := Lib.hid hgb
            have bw5 := below_step bw4 hb5
            have ho5 := own_belowS ho4 hb5
            have hs5 := bw5.size
            clear hgb
            by_cases hx : x1 = x2
            · by_cases hy : y1 = y2
              · subst hx
                subst hy
                have HN := Lib.hid (show ys ++ (mrg l ks (a + 1) m).filter (chgB l ks) = (mrg l ks 0 0).filter (chgB l ks) by rw [← HM.out, List.filter_cons_of_neg (by rw [chgB_of HGA.out HGB.out]; simp)])
                go_wp2_with fail
                go_roundw
                case rel => exact ⟨a + 1, m, ys, by first | rfl | go_num, by first | rfl | go_num, by omega, by omega, by omega, HN.out, ho5, bw5⟩
                case measure => simp [intOf]; omega
              · subst hx
                have HN := Lib.hid (show ys ++ [p.p] ++ (mrg l ks (a + 1) m).filter (chgB l ks) = (mrg l ks 0 0).filter (chgB l ks) by rw [← HM.out, List.filter_cons_of_pos (by rw [chgB_of HGA.out HGB.out]; simp [hy])]; simp)
                have hoP := ho5.alloc (.cells #[.string p.p] 9)
                have hnP := at_new (enc := encS) w5 encS_len [p.p] 9 #[.string p.p] rfl (by unfold maxLen; simp)
                go_wp2_with (at_builtin; refine wpList_append_at _ rfl _ _ 47 rfl w.heap.size 9 i0 (.string ByteArray.empty) 1 16 Tryd.underlying47 hi0 hj0 hj1 hj2 rfl (by decide) _ ys.length _ rfl hoP encS_len encS_one _ 1 1 [p.p] rfl rfl hnP (by unfold maxLen; omega) (by omega) (by first | omega | (rw [World.size_alloc]; omega)) ?_; intro v3 w6 ho6 hg6 hv6)
                go_roundw
                case rel => exact ⟨a + 1, m, ys ++ [p.p], by first | rfl | go_num, by first | rfl | go_num, by omega, by omega, by simp; omega, HN.out, by rw [List.length_append, List.flatMap_append]; exact ho6, below_app (w := w) (below_alloc bw5 _) hg6 (own_ge ho5)⟩
                case measure => simp [intOf]; omega
            · have HN := Lib.hid (show ys ++ [p.p] ++ (mrg l ks (a + 1) m).filter (chgB l ks) = (mrg l ks 0 0).filter (chgB l ks) by rw [← HM.out, List.filter_cons_of_pos (by rw [chgB_of HGA.out HGB.out]; simp [hx])]; simp)
              have hoP := ho5.alloc (.cells #[.string p.p] 9)
              have hnP := at_new (enc := encS) w5 encS_len [p.p] 9 #[.string p.p] rfl (by unfold maxLen; simp)
              go_wp2_with (at_builtin; refine wpList_append_at _ rfl _ _ 47 rfl w.heap.size 9 i0 (.string ByteArray.empty) 1 16 Tryd.underlying47 hi0 hj0 hj1 hj2 rfl (by decide) _ ys.length _ rfl hoP encS_len encS_one _ 1 1 [p.p] rfl rfl hnP (by unfold maxLen; omega) (by omega) (by first | omega | (rw [World.size_alloc]; omega)) ?_; intro v3 w6 ho6 hg6 hv6)
              go_roundw
              case rel => exact ⟨a + 1, m, ys ++ [p.p], by first | rfl | go_num, by first | rfl | go_num, by omega, by omega, by simp; omega, HN.out, by rw [List.length_append, List.flatMap_append]; exact ho6, below_app (w := w) (below_alloc bw5 _) hg6 (own_ge ho5)⟩
              case measure => simp [intOf]; omega
        · have hda : decide ((a : Int) < (n : Int)) = false := decide_eq_false (by omega)
          have hea : ((a : Int) == (n : Int)) = true := by simp; omega
          obtain rfl : n = a := by omega
          by_cases hltb : b < m
          · have hlb : b < ks.length := by rw [HK.out]; exact hltb
            have hdb : decide ((b : Int) < (m : Int)) = true := decide_eq_true (by omega)
            have heb : ((b : Int) == (m : Int)) = false := by simp; omega
            have hidxb := fun W => run_index_any (c := d) Tryd.underlying27 hin hzn1 (hb.addr (by omega)) hltb W
            obtain ⟨q, hq⟩ : ∃ q, ks[b] = q := ⟨_, rfl⟩
            have HQ := Lib.hid (show ks[b]? = some q by rw [List.getElem?_eq_getElem hlb, hq])
            obtain ⟨b0, b1, b2⟩ := at3 (hb.belowS hbw) hlb hq
            clear hq
            have HM := Lib.hid (show ys ++ (q.p :: mrg l ks n (b + 1)).filter (chgB l ks) = (mrg l ks 0 0).filter (chgB l ks) by rw [← HY.out, mrg_right HL.out HQ.out])
            have bwq := fun i => (below_drawn hbw i)
            have hoq := fun i => own_belowS ho (below_drawn (Below.refl wr.heap.size wr) i)
            go_wp2_with fail
            first | (go_quiet (fail)) | fail
            go_wp2_with fail
            first | (go_quiet (fail)) | fail
            clear hbw ho
            go_wp2_with fail
            refine (implGet_any A n c l q.p _ (by omega) HL.out (ha.belowS (bwq _))).mono ?_
            rintro e w4 ⟨x1, y1, rfl, hga, hb4⟩
            have HGA := Lib.hid hga
            have bw4 := below_step (bwq _) hb4
            have ho4 := own_belowS (hoq _) hb4
            clear hga
            go_wp2_with fail
            refine (implGet_any B m d ks q.p _ (by omega) HK.out (hb.belowS bw4)).mono ?_
            rintro e w5 ⟨x2, y2, rfl, hgb, hb5⟩
            have HGB := Lib.hid hgb
            have bw5 := below_step bw4 hb5
            have ho5 := own_belowS ho4 hb5
            have hs5 := bw5.size
            clear hgb
            by_cases hx : x1 = x2
            · by_cases hy : y1 = y2
              · subst hx
                subst hy
                have HN := Lib.hid (show ys ++ (mrg l ks n (b + 1)).filter (chgB l ks) = (mrg l ks 0 0).filter (chgB l ks) by rw [← HM.out, List.filter_cons_of_neg (by rw [chgB_of HGA.out HGB.out]; simp)])
                go_wp2_with fail
                go_roundw
                case rel => exact ⟨n, b + 1, ys, by first | rfl | go_num, by first | rfl | go_num, by omega, by omega, by omega, HN.out, ho5, bw5⟩
                case measure => simp [intOf]; omega
              · subst hx
                have HN := Lib.hid (show ys ++ [q.p] ++ (mrg l ks n (b + 1)).filter (chgB l ks) = (mrg l ks 0 0).filter (chgB l ks) by rw [← HM.out, List.filter_cons_of_pos (by rw [chgB_of HGA.out HGB.out]; simp [hy])]; simp)
                have hoP := ho5.alloc (.cells #[.string q.p] 9)
                have hnP := at_new (enc := encS) w5 encS_len [q.p] 9 #[.string q.p] rfl (by unfold maxLen; simp)
                go_wp2_with (at_builtin; refine wpList_append_at _ rfl _ _ 47 rfl w.heap.size 9 i0 (.string ByteArray.empty) 1 16 Tryd.underlying47 hi0 hj0 hj1 hj2 rfl (by decide) _ ys.length _ rfl hoP encS_len encS_one _ 1 1 [q.p] rfl rfl hnP (by unfold maxLen; omega) (by omega) (by first | omega | (rw [World.size_alloc]; omega)) ?_; intro v3 w6 ho6 hg6 hv6)
                go_roundw
                case rel => exact ⟨n, b + 1, ys ++ [q.p], by first | rfl | go_num, by first | rfl | go_num, by omega, by omega, by simp; omega, HN.out, by rw [List.length_append, List.flatMap_append]; exact ho6, below_app (w := w) (below_alloc bw5 _) hg6 (own_ge ho5)⟩
                case measure => simp [intOf]; omega
            · have HN := Lib.hid (show ys ++ [q.p] ++ (mrg l ks n (b + 1)).filter (chgB l ks) = (mrg l ks 0 0).filter (chgB l ks) by rw [← HM.out, List.filter_cons_of_pos (by rw [chgB_of HGA.out HGB.out]; simp [hx])]; simp)
              have hoP := ho5.alloc (.cells #[.string q.p] 9)
              have hnP := at_new (enc := encS) w5 encS_len [q.p] 9 #[.string q.p] rfl (by unfold maxLen; simp)
              go_wp2_with (at_builtin; refine wpList_append_at _ rfl _ _ 47 rfl w.heap.size 9 i0 (.string ByteArray.empty) 1 16 Tryd.underlying47 hi0 hj0 hj1 hj2 rfl (by decide) _ ys.length _ rfl hoP encS_len encS_one _ 1 1 [q.p] rfl rfl hnP (by unfold maxLen; omega) (by omega) (by first | omega | (rw [World.size_alloc]; omega)) ?_; intro v3 w6 ho6 hg6 hv6)
              go_roundw
              case rel => exact ⟨n, b + 1, ys ++ [q.p], by first | rfl | go_num, by first | rfl | go_num, by omega, by omega, by simp; omega, HN.out, by rw [List.length_append, List.flatMap_append]; exact ho6, below_app (w := w) (below_alloc bw5 _) hg6 (own_ge ho5)⟩
              case measure => simp [intOf]; omega
          · have hdb : decide ((b : Int) < (m : Int)) = false := decide_eq_false (by omega)
            have heb : ((b : Int) == (m : Int)) = true := by simp; omega
            obtain rfl : m = b := by omega
            have HN := Lib.hid (show ChgR l ks ys from .inl ⟨HG.out, by have := HY.out; rw [mrg_end HL.out HK.out, List.filter_nil, List.append_nil] at this; exact this⟩)
            go_wp2_with fail
            go_ret
            exact OutR.of rfl HN.out ho hbw
end Go.Proofs.YthcfjiapmigjiaaDoor
