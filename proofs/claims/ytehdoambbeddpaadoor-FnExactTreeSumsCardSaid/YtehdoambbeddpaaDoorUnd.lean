/- The paths under a path, and the sums of all nodes, by both texts. -/
import Derived.Test.YtehdoambbeddpaaDoorTreeI
import Derived.Test.YtehdoambbeddpaaDoorSumI
import Derived.Test.YtehdoambbeddpaaDoorOut
import Derived.Test.YtehdoambbeddpaaDoorIntS
import Derived.Test.YtehdoambbeddpaaDoorPath4
namespace Go.Proofs.YtehdoambbeddpaaDoor
open Go.RowKit
set_option linter.unusedVariables false
set_option linter.unusedSimpArgs false
set_option maxRecDepth 20000

def undL (l : List Nod) (s : List UInt8) : List ByteArray := (l.filter fun n => underL s n.s).map (·.p)
theorem undL_snoc {l : List Nod} {k : Nat} (hk : k < l.length) (s : List UInt8) : undL (l.take (k + 1)) s = undL (l.take k) s ++ (if underL s l[k].s then [l[k].p] else []) := by
  unfold undL
  rw [take_snoc' l k hk, List.filter_append, List.map_append]
  congr 1
  cases h : underL s l[k].s <;> simp [h]
theorem undL_len (l : List Nod) (s : List UInt8) : (undL l s).length ≤ l.length := by
  unfold undL; rw [List.length_map]; exact List.length_filter_le _ _
def UndR (l : List Nod) (s : List UInt8) (ys : List ByteArray) : Prop := (TreeP l ∧ pathB s = true) ∧ ys = undL l s ∨ ¬ (TreeP l ∧ pathB s = true) ∧ ys = []
theorem UndR.same {l : List Nod} {s : List UInt8} {a b : List ByteArray} (h : UndR l s a) (k : UndR l s b) : a = b := by
  rcases h with ⟨h, rfl⟩ | ⟨h, rfl⟩ <;> rcases k with ⟨k, rfl⟩ | ⟨k, rfl⟩
  · rfl
  · exact absurd h k
  · exact absurd k h
  · rfl
theorem UndR.len {l : List Nod} {s : List UInt8} {a : List ByteArray} (h : UndR l s a) : a.length ≤ l.length := by
  rcases h with ⟨_, rfl⟩ | ⟨_, rfl⟩
  · exact undL_len l s
  · exact Nat.zero_le _
def smsL (l : List Nod) (k : Nat) : List Int := (l.take k).map fun n => sumN 5 l n.s
theorem smsL_snoc {l : List Nod} {k : Nat} (hk : k < l.length) : smsL l (k + 1) = smsL l k ++ [sumN 5 l l[k].s] := by
  unfold smsL
  rw [take_snoc' l k hk, List.map_append]; rfl
theorem smsL_len (l : List Nod) (k : Nat) : (smsL l k).length ≤ k := by unfold smsL; rw [List.length_map, List.length_take]; omega
def SmsR (l : List Nod) (ys : List Int) : Prop := TreeP l ∧ ys = smsL l l.length ∨ ¬ TreeP l ∧ ys = []
theorem SmsR.same {l : List Nod} {a b : List Int} (h : SmsR l a) (k : SmsR l b) : a = b := by
  rcases h with ⟨h, rfl⟩ | ⟨h, rfl⟩ <;> rcases k with ⟨k, rfl⟩ | ⟨k, rfl⟩
  · rfl
  · exact absurd h k
  · exact absurd k h
  · rfl
theorem SmsR.len {l : List Nod} {a : List Int} (h : SmsR l a) : a.length ≤ l.length := by
  rcases h with ⟨_, rfl⟩ | ⟨_, rfl⟩
  · exact smsL_len l _
  · exact Nat.zero_le _


set_option maxHeartbeats 1000000 in
theorem specUnderAll_any (A : Option Addr) (n c : Nat) (l : List Nod) (s : ByteArray) (w : World) (hn : n ≤ 1100000) (hl : l.length = n) (ha : At encN 3 w A l) (hz : ∀ q ∈ l, q.p.size ≤ 1048576) (hs : s.size ≤ 1048576) :
    Calls Tryd.prog 21 #[.slice A n c, .string s] w (OutR encS 1 9 (UndR l s.data.toList) w) := by
  obtain ⟨n0, hin, hzn0, hzn1, hzn2⟩ := info_parts infoN
  obtain ⟨i0, hi0, hj0, hj1, hj2⟩ := info_parts infoStr
  have HL := Lib.hid hl
  clear hl
  obtain ⟨pb, hpb⟩ : ∃ pb, pathB s.data.toList = pb := ⟨_, rfl⟩
  have HPB := Lib.hid hpb
  clear hpb
  go_enter Tryd.func21, Tryd.ntmps21
  go_wp2_with fail
  go_loopw [5, 6] (fun v i wr => ∃ (k : Nat) (ys : List ByteArray), i = .int .i64 k ∧ k ≤ n ∧ ys.length ≤ k ∧ Hid ((TreeP l ∧ pathB s.data.toList = true → ys = undL (l.take k) s.data.toList) ∧ (¬ (TreeP l ∧ pathB s.data.toList = true) → ys = [])) ∧ wr.ownsRow w.heap.size 9 1 v ys.length (ys.flatMap encS) ∧ Below w.heap.size w wr) (fun _ i _ => n - (intOf i).toNat)
  case atStart => exact ⟨0, [], rfl, Nat.zero_le _, Nat.le_refl _, Lib.hid ⟨fun _ => by simp [undL], fun _ => rfl⟩, World.ownsRow_lit (base := w.heap.size) (e := 9) (size := 1) w #[] 0 (Nat.le_refl _) (by decide) rfl, (Below.refl _ _).alloc (Nat.le_refl _) _⟩
  case round =>
    obtain ⟨k, ys, rfl, hk, hys, HY, ho, hbw⟩ := hrel
    by_cases hlt : k < n
    · have hd : decide ((k : Int) < (n : Int)) = true := decide_eq_true (by omega)
      have hlk : k < l.length := by rw [HL.out]; exact hlt
      have hidx := fun W => run_index_any (c := c) Tryd.underlying25 hin hzn1 (ha.addr (by omega)) hlt W
      obtain ⟨q, hq⟩ : ∃ q, l[k] = q := ⟨_, rfl⟩
      have HQ := Lib.hid hq
      have hqz := hz q (hq ▸ List.getElem_mem _)
      clear hq
      go_wp2_with fail
      refine (specTree_any A n c l _ hn HL.out (ha.belowS hbw) hz).mono ?_
      rintro e w1 ⟨b, rfl, hb, hb1⟩
      have bw1 := below_step hbw hb1
      have HB := Lib.hid hb
      have ho1 := own_belowS ho hb1
      clear hb
      cases b with
      | false =>
        have HN := Lib.hid (show ¬ (TreeP l ∧ pathB s.data.toList = true) from fun h => by have := HB.out.2 h.1; cases this)
        go_wp2_with fail
        go_ret
        exact OutR.of rfl (.inr ⟨HN.out, HY.out.2 HN.out⟩) ho1 bw1
      | true =>
        go_wp2_with fail
        refine (specPath_any s _ hs).mono ?_
        rw [HPB.out]
        rintro e w2 ⟨rfl, hb2⟩
        have bw2 := below_step bw1 hb2
        have ho2 := own_belowS ho1 hb2
        clear ho1 ho
        cases pb with
        | false =>
          have HN := Lib.hid (show ¬ (TreeP l ∧ pathB s.data.toList = true) from fun h => by have := h.2; rw [HPB.out] at this; cases this)
          go_wp2_with fail
          go_ret
          exact OutR.of rfl (.inr ⟨HN.out, HY.out.2 HN.out⟩) ho2 bw2
        | true =>
          have HG := Lib.hid (show TreeP l ∧ pathB s.data.toList = true from ⟨HB.out.1 (by first | rfl | trivial), HPB.out⟩)
          obtain ⟨c0, c1, c2⟩ := at3 (ha.belowS bw2) hlk HQ.out
          obtain ⟨u, hu⟩ : ∃ u, underL s.data.toList q.p.data.toList = u := ⟨_, rfl⟩
          have HU := Lib.hid hu
          have HE := Lib.hid (HY.out.1 HG.out)
          have ho3 := ho2.alloc (.cells #[.string q.p] 9)
          have hn3 := at_new (enc := encS) w2 encS_len [q.p] 9 #[.string q.p] rfl (by unfold maxLen; simp)
          have hsw := bw2.size
          clear hu
          go_wp2_with fail
          refine (specUnder_any s q.p _ hs hqz).mono ?_
          rw [HU.out]
          rintro e w' ⟨rfl, rfl⟩
          cases u with
          | false =>
            have HS := Lib.hid (show ys = undL (l.take (k + 1)) s.data.toList by rw [undL_snoc hlk, HQ.out, show underL s.data.toList q.s = false from HU.out, ← HE.out]; simp)
            go_wp2_with fail
            go_roundw
            case rel => exact ⟨k + 1, ys, by go_num, by omega, by omega, Lib.hid ⟨fun _ => HS.out, fun h => absurd HG.out h⟩, ho2, bw2⟩
            case measure => simp [intOf]; omega
          | true =>
            have HS := Lib.hid (show ys ++ [q.p] = undL (l.take (k + 1)) s.data.toList by rw [undL_snoc hlk, HQ.out, show underL s.data.toList q.s = true from HU.out, ← HE.out]; simp)
            go_wp2_with (at_builtin; refine wpList_append_at _ rfl _ _ 35 rfl w.heap.size 9 i0 (.string ByteArray.empty) 1 16 Tryd.underlying35 hi0 hj0 hj1 hj2 rfl (by decide) _ ys.length _ rfl ho3 encS_len encS_one _ 1 1 [q.p] rfl rfl hn3 (by unfold maxLen; omega) (by omega) (by simp; omega) ?_; intro v3 w3 ho3 hg3 hv3)
            go_roundw
            case rel => exact ⟨k + 1, ys ++ [q.p], by go_num, by omega, by simp; omega, Lib.hid ⟨fun _ => HS.out, fun h => absurd HG.out h⟩, by rw [List.length_append, List.flatMap_append]; exact ho3, below_app (below_alloc bw2 _) hg3 (own_ge ho2)⟩
            case measure => simp [intOf]; omega
    · obtain rfl : n = k := by omega
      have hd : decide ((n : Int) < (n : Int)) = false := decide_eq_false (by omega)
      have hall : l.take n = l := List.take_of_length_le (by rw [HL.out]; exact Nat.le_refl _)
      have HR := Lib.hid (show UndR l s.data.toList ys from by
        rcases Classical.em (TreeP l ∧ pathB s.data.toList = true) with h | h
        · exact .inl ⟨h, by rw [HY.out.1 h, hall]⟩
        · exact .inr ⟨h, HY.out.2 h⟩)
      clear hall
      go_wp2_with fail
      go_ret
      exact OutR.of rfl HR.out ho hbw


set_option maxHeartbeats 1000000 in
theorem implUnderAll_any (A : Option Addr) (n c : Nat) (l : List Nod) (s : ByteArray) (w : World) (hn : n ≤ 1100000) (hl : l.length = n) (ha : At encN 3 w A l) (hz : ∀ q ∈ l, q.p.size ≤ 1048576) (hs : s.size ≤ 1048576) (hm : MaxAt w) :
    Calls Tryd.prog 22 #[.slice A n c, .string s] w (OutR encS 1 9 (UndR l s.data.toList) w) := by
  obtain ⟨n0, hin, hzn0, hzn1, hzn2⟩ := info_parts infoN
  obtain ⟨i0, hi0, hj0, hj1, hj2⟩ := info_parts infoStr
  have HL := Lib.hid hl
  have HM := Lib.hid hm
  clear hl hm
  obtain ⟨pb, hpb⟩ : ∃ pb, pathB s.data.toList = pb := ⟨_, rfl⟩
  have HPB := Lib.hid hpb
  clear hpb
  go_enter Tryd.func22, Tryd.ntmps22
  go_wp2_with fail
  refine (implTree_any A n c l _ hn HL.out ha hz HM.out).mono ?_
  rintro e w1 ⟨b, rfl, hb, hb1⟩
  have HB := Lib.hid hb
  clear hb
  cases b with
  | false =>
    have HN := Lib.hid (show ¬ (TreeP l ∧ pathB s.data.toList = true) from fun h => by have := HB.out.2 h.1; cases this)
    go_wp2_with fail
    go_ret
    exact OutR.nil (.inr ⟨HN.out, rfl⟩) hb1
  | true =>
    go_wp2_with fail
    refine (implPath_any s _ hs (HM.out.belowS hb1)).mono ?_
    rw [HPB.out]
    rintro e w2 ⟨rfl, hb2⟩
    have bw2 := below_step hb1 hb2
    cases pb with
    | false =>
      have HN := Lib.hid (show ¬ (TreeP l ∧ pathB s.data.toList = true) from fun h => by have := h.2; rw [HPB.out] at this; cases this)
      go_wp2_with fail
      go_ret
      exact OutR.nil (.inr ⟨HN.out, rfl⟩) bw2
    | true =>
      have HG := Lib.hid (show TreeP l ∧ pathB s.data.toList = true from ⟨HB.out.1 (by first | rfl | trivial), HPB.out⟩)
      go_wp2_with fail
      go_loopw [5, 18] (fun v i wr => ∃ (k : Nat) (ys : List ByteArray), i = .int .i64 k ∧ k ≤ n ∧ ys.length ≤ k ∧ Hid (ys = undL (l.take k) s.data.toList) ∧ wr.ownsRow w.heap.size 9 1 v ys.length (ys.flatMap encS) ∧ Below w.heap.size w wr) (fun _ i _ => n - (intOf i).toNat)
      case atStart => exact ⟨0, [], rfl, Nat.zero_le _, Nat.le_refl _, Lib.hid (by simp [undL]), World.ownsRow_nil _ _ _ _, bw2⟩
      case round =>
        obtain ⟨k, ys, rfl, hk, hys, HY, ho, hbw⟩ := hrel
        by_cases hlt : k < n
        · have hlk : k < l.length := by rw [HL.out]; exact hlt
          have hidx := fun W => run_index_any (c := c) Tryd.underlying25 hin hzn1 (ha.addr (by omega)) hlt W
          obtain ⟨q, hq⟩ : ∃ q, l[k] = q := ⟨_, rfl⟩
          have HQ := Lib.hid hq
          have HQP := Lib.hid (HG.out.1.ok (show q ∈ l from hq ▸ List.getElem_mem _)).path.1
          obtain ⟨c0, c1, c2⟩ := at3 (ha.belowS hbw) hlk hq
          clear hq
          have P0 := Blk.new wr 60 #[.string q.p, .int .i64 q.x, .int .i64 q.y]
          have bw0 := below_alloc hbw (.cells #[.string q.p, .int .i64 q.x, .int .i64 q.y] 60)
          have ho0 := ho.alloc (.cells #[.string q.p, .int .i64 q.x, .int .i64 q.y] 60)
          obtain ⟨g, hg⟩ : ∃ g, wr.heap.size = g := ⟨_, rfl⟩
          obtain ⟨W0, hW0⟩ : ∃ W0, W0 = wr.alloc (.cells #[.string q.p, .int .i64 q.x, .int .i64 q.y] 60) := ⟨_, rfl⟩
          rw [hg, ← hW0] at P0
          rw [← hW0] at bw0 ho0
          obtain ⟨u, hu⟩ : ∃ u, underL s.data.toList q.p.data.toList = u := ⟨_, rfl⟩
          have HU := Lib.hid hu
          clear hu ho
          go_upto_region 7 with fail
          try rw [hg]
          rw [← hW0]
          clear hg hW0 c0 c1 c2
          obtain ⟨d0, d1, d2⟩ := blk3 P0
          have ho3 := ho0.alloc (.cells #[.string q.p] 9)
          have hn3 := at_new (enc := encS) W0 encS_len [q.p] 9 #[.string q.p] rfl (by unfold maxLen; simp)
          have hsw := bw0.size
          go_wp2_with fail
          refine (implUnder_any s q.p _ HG.out.2 HQP.out).mono ?_
          rw [HU.out]
          rintro e w' ⟨rfl, rfl⟩
          cases u with
          | false =>
            have HS := Lib.hid (show ys = undL (l.take (k + 1)) s.data.toList by rw [undL_snoc hlk, HQ.out, show underL s.data.toList q.s = false from HU.out, ← HY.out]; simp)
            go_wp2_with fail
            go_roundw
            case rel => exact ⟨k + 1, ys, by go_num, by omega, by omega, HS, ho0, bw0⟩
            case measure => simp [intOf]; omega
          | true =>
            have HS := Lib.hid (show ys ++ [q.p] = undL (l.take (k + 1)) s.data.toList by rw [undL_snoc hlk, HQ.out, show underL s.data.toList q.s = true from HU.out, ← HY.out]; simp)
            go_wp2_with (at_builtin; refine wpList_append_at _ rfl _ _ 35 rfl w.heap.size 9 i0 (.string ByteArray.empty) 1 16 Tryd.underlying35 hi0 hj0 hj1 hj2 rfl (by decide) _ ys.length _ rfl ho3 encS_len encS_one _ 1 1 [q.p] rfl rfl hn3 (by unfold maxLen; omega) (by omega) (by simp; omega) ?_; intro v3 w3 ho3 hg3 hv3)
            go_roundw
            case rel => exact ⟨k + 1, ys ++ [q.p], by go_num, by omega, by simp; omega, HS, by rw [List.length_append, List.flatMap_append]; exact ho3, below_app (below_alloc bw0 _) hg3 (own_ge ho0)⟩
            case measure => simp [intOf]; omega
        · obtain rfl : n = k := by omega
          have hall : l.take n = l := List.take_of_length_le (by rw [HL.out]; exact Nat.le_refl _)
          have HR := Lib.hid (show UndR l s.data.toList ys from .inl ⟨HG.out, by rw [HY.out, hall]⟩)
          clear hall
          go_wp2_with fail
          go_ret
          exact OutR.of rfl HR.out ho hbw


set_option maxHeartbeats 1000000 in
theorem specSums_any (A : Option Addr) (n c : Nat) (l : List Nod) (w : World) (hn : n ≤ 1100000) (hl : l.length = n) (ha : At encN 3 w A l) (hz : ∀ q ∈ l, q.p.size ≤ 1048576) :
    Calls Tryd.prog 27 #[.slice A n c] w (OutR encI 1 3 (SmsR l) w) := by
  obtain ⟨n0, hin, hzn0, hzn1, hzn2⟩ := info_parts infoN
  obtain ⟨i0, hi0, hj0, hj1, hj2⟩ := info_parts infoInt
  have HL := Lib.hid hl
  clear hl
  go_enter Tryd.func27, Tryd.ntmps27
  go_wp2_with fail
  go_loopw [3, 4] (fun v i wr => ∃ (k : Nat) (ys : List Int), i = .int .i64 k ∧ k ≤ n ∧ ys.length ≤ k ∧ Hid ((TreeP l → ys = smsL l k) ∧ (¬ TreeP l → ys = [])) ∧ wr.ownsRow w.heap.size 3 1 v ys.length (ys.flatMap encI) ∧ Below w.heap.size w wr) (fun _ i _ => n - (intOf i).toNat)
  case atStart => exact ⟨0, [], rfl, Nat.zero_le _, Nat.le_refl _, Lib.hid ⟨fun _ => by simp [smsL], fun _ => rfl⟩, World.ownsRow_lit (base := w.heap.size) (e := 3) (size := 1) w #[] 0 (Nat.le_refl _) (by decide) rfl, (Below.refl _ _).alloc (Nat.le_refl _) _⟩
  case round =>
    obtain ⟨k, ys, rfl, hk, hys, HY, ho, hbw⟩ := hrel
    by_cases hlt : k < n
    · have hd : decide ((k : Int) < (n : Int)) = true := decide_eq_true (by omega)
      have hlk : k < l.length := by rw [HL.out]; exact hlt
      have hidx := fun W => run_index_any (c := c) Tryd.underlying25 hin hzn1 (ha.addr (by omega)) hlt W
      obtain ⟨q, hq⟩ : ∃ q, l[k] = q := ⟨_, rfl⟩
      have HQ := Lib.hid hq
      have HQM := Lib.hid (show q ∈ l from hq ▸ List.getElem_mem _)
      clear hq
      go_wp2_with fail
      refine (specTree_any A n c l _ hn HL.out (ha.belowS hbw) hz).mono ?_
      rintro e w1 ⟨b, rfl, hb, hb1⟩
      have bw1 := below_step hbw hb1
      have HB := Lib.hid hb
      have ho1 := own_belowS ho hb1
      clear hb ho
      cases b with
      | false =>
        have HN := Lib.hid (show ¬ TreeP l from fun h => by have := HB.out.2 h; cases this)
        go_wp2_with fail
        go_ret
        exact OutR.of rfl (.inr ⟨HN.out, HY.out.2 HN.out⟩) ho1 bw1
      | true =>
        have HG := Lib.hid (HB.out.1 (by first | rfl | trivial))
        obtain ⟨c0, c1, c2⟩ := at3 (ha.belowS bw1) hlk HQ.out
        obtain ⟨V, hV⟩ : ∃ V, sumN 5 l q.s = V := ⟨_, rfl⟩
        have HV := Lib.hid hV
        have HS := Lib.hid (show ys ++ [V] = smsL l (k + 1) by rw [smsL_snoc hlk, HQ.out, hV, HY.out.1 HG.out])
        clear hV
        go_wp2_with fail
        refine (specSum_any 5 A n c l q.p _ hn HL.out (ha.belowS bw1) HG.out (HG.out.ok HQM.out).path.1 (by omega)).mono ?_
        rw [show sumN 5 l q.p.data.toList = V from HV.out]
        rintro e w2 ⟨rfl, hb2⟩
        have bw2 := below_step bw1 hb2
        have ho2 := own_belowS ho1 hb2
        have ho3 := ho2.alloc (.cells #[.int .i64 V] 3)
        have hn3 := at_new (enc := encI) w2 encI_len [V] 3 #[.int .i64 V] rfl (by unfold maxLen; simp)
        have hsw := bw2.size
        clear ho1 c0 c1 c2
        go_wp2_with (at_builtin; refine wpList_append_at _ rfl _ _ 40 rfl w.heap.size 3 i0 (.int .i64 0) 1 8 Tryd.underlying40 hi0 hj0 hj1 hj2 rfl (by decide) _ ys.length _ rfl ho3 encI_len encI_one _ 1 1 [V] rfl rfl hn3 (by unfold maxLen; omega) (by omega) (by simp; omega) ?_; intro v3 w3 ho3 hg3 hv3)
        go_roundw
        case rel => exact ⟨k + 1, ys ++ [V], by go_num, by omega, by simp; omega, Lib.hid ⟨fun _ => HS.out, fun h => absurd HG.out h⟩, by rw [List.length_append, List.flatMap_append]; exact ho3, below_app (below_alloc bw2 _) hg3 (own_ge ho2)⟩
        case measure => simp [intOf]; omega
    · obtain rfl : n = k := by omega
      have hd : decide ((n : Int) < (n : Int)) = false := decide_eq_false (by omega)
      have HR := Lib.hid (show SmsR l ys from by
        rcases Classical.em (TreeP l) with h | h
        · exact .inl ⟨h, by rw [HY.out.1 h, HL.out]⟩
        · exact .inr ⟨h, HY.out.2 h⟩)
      go_wp2_with fail
      go_ret
      exact OutR.of rfl HR.out ho hbw

set_option maxHeartbeats 1000000 in
theorem implSums_any (A : Option Addr) (n c : Nat) (l : List Nod) (w : World) (hn : n ≤ 1100000) (hl : l.length = n) (ha : At encN 3 w A l) (hz : ∀ q ∈ l, q.p.size ≤ 1048576) (hm : MaxAt w) :
    Calls Tryd.prog 28 #[.slice A n c] w (OutR encI 1 3 (SmsR l) w) := by
  obtain ⟨n0, hin, hzn0, hzn1, hzn2⟩ := info_parts infoN
  obtain ⟨i0, hi0, hj0, hj1, hj2⟩ := info_parts infoInt
  have HL := Lib.hid hl
  have HM := Lib.hid hm
  clear hl hm
  go_enter Tryd.func28, Tryd.ntmps28
  go_wp2_with fail
  refine (implTree_any A n c l _ hn HL.out ha hz HM.out).mono ?_
  rintro e w1 ⟨b, rfl, hb, hb1⟩
  have HB := Lib.hid hb
  clear hb
  cases b with
  | false =>
    have HN := Lib.hid (show ¬ TreeP l from fun h => by have := HB.out.2 h; cases this)
    go_wp2_with fail
    go_ret
    exact OutR.nil (.inr ⟨HN.out, rfl⟩) hb1
  | true =>
    have HG := Lib.hid (HB.out.1 (by first | rfl | trivial))
    go_wp2_with fail
    go_loopw [3, 11] (fun v i wr => ∃ (k : Nat) (ys : List Int), i = .int .i64 k ∧ k ≤ n ∧ ys.length ≤ k ∧ Hid (ys = smsL l k) ∧ wr.ownsRow w.heap.size 3 1 v ys.length (ys.flatMap encI) ∧ Below w.heap.size w wr) (fun _ i _ => n - (intOf i).toNat)
    case atStart => exact ⟨0, [], rfl, Nat.zero_le _, Nat.le_refl _, Lib.hid (by simp [smsL]), World.ownsRow_nil _ _ _ _, hb1⟩
    case round =>
      obtain ⟨k, ys, rfl, hk, hys, HY, ho, hbw⟩ := hrel
      by_cases hlt : k < n
      · have hlk : k < l.length := by rw [HL.out]; exact hlt
        have hidx := fun W => run_index_any (c := c) Tryd.underlying25 hin hzn1 (ha.addr (by omega)) hlt W
        obtain ⟨q, hq⟩ : ∃ q, l[k] = q := ⟨_, rfl⟩
        have HQ := Lib.hid hq
        have HQM := Lib.hid (show q ∈ l from hq ▸ List.getElem_mem _)
        obtain ⟨c0, c1, c2⟩ := at3 (ha.belowS hbw) hlk hq
        clear hq
        have P0 := Blk.new wr 60 #[.string q.p, .int .i64 q.x, .int .i64 q.y]
        have bw0 := below_alloc hbw (.cells #[.string q.p, .int .i64 q.x, .int .i64 q.y] 60)
        have ho0 := ho.alloc (.cells #[.string q.p, .int .i64 q.x, .int .i64 q.y] 60)
        obtain ⟨g, hg⟩ : ∃ g, wr.heap.size = g := ⟨_, rfl⟩
        obtain ⟨W0, hW0⟩ : ∃ W0, W0 = wr.alloc (.cells #[.string q.p, .int .i64 q.x, .int .i64 q.y] 60) := ⟨_, rfl⟩
        rw [hg, ← hW0] at P0
        rw [← hW0] at bw0 ho0
        obtain ⟨V, hV⟩ : ∃ V, sumN 5 l q.s = V := ⟨_, rfl⟩
        have HV := Lib.hid hV
        have HS := Lib.hid (show ys ++ [V] = smsL l (k + 1) by rw [smsL_snoc hlk, HQ.out, hV, HY.out])
        clear hV ho
        go_upto_region 7 with fail
        try rw [hg]
        rw [← hW0]
        clear hg hW0 c0 c1 c2
        obtain ⟨d0, d1, d2⟩ := blk3 P0
        go_wp2_with fail
        refine (implSum_any 5 A n c l q.p _ hn HL.out (ha.belowS bw0) HG.out (HG.out.ok HQM.out).path.1 (by omega)).mono ?_
        rw [show sumN 5 l q.p.data.toList = V from HV.out]
        rintro e w2 ⟨rfl, hb2⟩
        have bw2 := below_step bw0 hb2
        have ho2 := own_belowS ho0 hb2
        have ho3 := ho2.alloc (.cells #[.int .i64 V] 3)
        have hn3 := at_new (enc := encI) w2 encI_len [V] 3 #[.int .i64 V] rfl (by unfold maxLen; simp)
        have hsw := bw2.size
        clear ho0 d0 d1 d2 P0
        go_wp2_with (at_builtin; refine wpList_append_at _ rfl _ _ 40 rfl w.heap.size 3 i0 (.int .i64 0) 1 8 Tryd.underlying40 hi0 hj0 hj1 hj2 rfl (by decide) _ ys.length _ rfl ho3 encI_len encI_one _ 1 1 [V] rfl rfl hn3 (by unfold maxLen; omega) (by omega) (by simp; omega) ?_; intro v3 w3 ho3 hg3 hv3)
        go_roundw
        case rel => exact ⟨k + 1, ys ++ [V], by go_num, by omega, by simp; omega, HS, by rw [List.length_append, List.flatMap_append]; exact ho3, below_app (below_alloc bw2 _) hg3 (own_ge ho2)⟩
        case measure => simp [intOf]; omega
      · obtain rfl : n = k := by omega
        have HR := Lib.hid (show SmsR l ys from .inl ⟨HG.out, by rw [HY.out, HL.out]⟩)
        go_wp2_with fail
        go_ret
        exact OutR.of rfl HR.out ho hbw
end Go.Proofs.YtehdoambbeddpaaDoor
