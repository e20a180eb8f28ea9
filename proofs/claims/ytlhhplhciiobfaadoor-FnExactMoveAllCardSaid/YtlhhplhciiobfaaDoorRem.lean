/- The commands that remove what lies at a path, by both texts. -/
import Derived.Test.YtlhhplhciiobfaaDoorBackN
import Derived.Test.YtlhhplhciiobfaaDoorCopy
namespace Go.Proofs.YtlhhplhciiobfaaDoor
open Go.RowKit Go.Shelf
set_option linter.unusedVariables false
set_option linter.unusedSimpArgs false
set_option maxRecDepth 20000

def remK (n : Nod) : Cmd := ⟨n.p, n.x, n.y, 0, 0⟩
theorem rev_takeA {α : Type} {l : List α} {k m : Nat} {q : α} (hk : k < l.length) (hm : m + k + 1 = l.length) (hq : l[m]? = some q) : l.reverse.take (k + 1) = l.reverse.take k ++ [q] := by
  have hk' : k < l.reverse.length := by simpa using hk
  rw [List.take_succ_eq_append_getElem hk']
  congr 2
  rw [List.getElem_reverse]
  obtain ⟨hm', rfl⟩ := List.getElem?_eq_some_iff.1 hq
  congr 1
  omega
def remT (l : List Nod) (s : List UInt8) (k : Nat) : List Cmd := ((l.reverse.take k).filter (selB s)).map remK
theorem remT_all {l : List Nod} {s : List UInt8} {k : Nat} (h : l.length = k) : remT l s k = remL l s := by
  unfold remT
  rw [List.take_of_length_le (by rw [List.length_reverse, h]; exact Nat.le_refl _)]; rfl
theorem remT_yes {l : List Nod} {s : List UInt8} {k m : Nat} {q : Nod} (hk : k < l.length) (hm : m + k + 1 = l.length) (hq : l[m]? = some q) (h : selB s q = true) : remT l s (k + 1) = remT l s k ++ [remK q] := by
  unfold remT
  rw [rev_takeA hk hm hq, List.filter_append, List.map_append]; simp [h]
theorem remT_no {l : List Nod} {s : List UInt8} {k m : Nat} {q : Nod} (hk : k < l.length) (hm : m + k + 1 = l.length) (hq : l[m]? = some q) (h : selB s q = false) : remT l s (k + 1) = remT l s k := by
  unfold remT
  rw [rev_takeA hk hm hq, List.filter_append, List.map_append]; simp [h]
theorem from_snoc {l : List Nod} {k : Nat} (hk : k < l.length) (s : List UInt8) : (l.take (k + 1)).filter (selB s) = (l.take k).filter (selB s) ++ (if selB s l[k] then [l[k]] else []) := by
  rw [take_snoc' l k hk, List.filter_append]
  congr 1
  cases h : selB s l[k] <;> simp [h]

set_option maxHeartbeats 2000000 in
theorem specRem_any (A : Option Addr) (n c : Nat) (l : List Nod) (s : ByteArray) (w : World) (hn : n ≤ 1048576) (hl : l.length = n) (ha : At encN 3 w A l) (hz : ∀ q ∈ l, q.p.size ≤ 1048576) (hs : s.size ≤ 1048576) :
    Calls Tryd.prog 70 #[.slice A n c, .string s] w (OutR encK 5 35 (fun ys => ys = remL l s.data.toList) w) := by
  obtain ⟨n0, hin, hzn0, hzn1, hzn2⟩ := info_parts infoN
  obtain ⟨k0, hki, hkz0, hkz1, hkz2⟩ := info_parts infoK
  have HL := Lib.hid hl
  clear hl
  go_enter Tryd.func70, Tryd.ntmps70
  go_wp2_with fail
  go_loopw [5, 6] (fun v i wr => ∃ (k : Nat) (z : Int) (ys : List Cmd), k ≤ n ∧ z + k + 1 = n ∧ i = .int .i64 z ∧ ys.length ≤ k ∧ Hid (ys = remT l s.data.toList k) ∧ wr.ownsRow w.heap.size 35 5 v ys.length (ys.flatMap encK) ∧ Below w.heap.size w wr) (fun _ i _ => (intOf i + 1).toNat)
  case atStart => exact ⟨0, (n : Int) - 1, [], Nat.zero_le _, by omega, by first | rfl | go_num, Nat.le_refl _, Lib.hid (by simp [remT]), World.ownsRow_lit (base := w.heap.size) (e := 35) (size := 5) w #[] 0 (Nat.le_refl _) (by decide) rfl, below_alloc (Below.refl _ _) _⟩
  case round =>
    obtain ⟨k, z, ys, hk, hzk, rfl, hys, HY, ho, hbw⟩ := hrel
    by_cases hlt : k < n
    · obtain ⟨m, rfl⟩ : ∃ m : Nat, z = m := ⟨z.toNat, by omega⟩
      have hmz : m < l.length := by rw [HL.out]; omega
      have hk1 : k < l.length := by have := HL.out; omega
      have hk2 : m + k + 1 = l.length := by have := HL.out; omega
      have hidx := fun W => run_index_any (c := c) Tryd.underlying29 hin hzn1 (ha.addr (by omega)) (show m < n by omega) W
      obtain ⟨q, hq⟩ : ∃ q, l[m] = q := ⟨_, rfl⟩
      have HQ := Lib.hid (show l[m]? = some q by rw [List.getElem?_eq_getElem hmz, hq])
      have hqz := hz q (hq ▸ List.getElem_mem _)
      obtain ⟨c0, c1, c2⟩ := at3 (ha.belowS hbw) hmz hq
      clear hq
      obtain ⟨r1, hr1⟩ : ∃ r1, decide (q.p.data.toList = s.data.toList) = r1 := ⟨_, rfl⟩
      have HR1 := Lib.hid hr1
      have hl1 : (q.p.toList == s.toList) = r1 := by rw [toList_is rfl, toList_is rfl, ← hr1, Bool.eq_iff_iff]; simp
      clear hr1
      cases r1 with
      | true =>
        have HS := Lib.hid (show selB s.data.toList q = true from by unfold selB; rw [show decide (q.s = s.data.toList) = true from HR1.out]; rfl)
        have HN := Lib.hid (show ys ++ [remK q] = remT l s.data.toList (k + 1) by rw [remT_yes hk1 hk2 HQ.out HS.out, ← HY.out])
        go_upto_region 6 with fail
        have bwd : Below w.heap.size w wr.drew := hbw.drew
        have hod := own_belowS ho (Below.refl wr.heap.size wr).drew
        have hoP := hod.alloc (.cells #[.string q.p, .int .i64 q.x, .int .i64 q.y, .int .i64 0, .int .i64 0] 35)
        have hnP := at_new (enc := encK) wr.drew encK_len [remK q] 35 #[.string q.p, .int .i64 q.x, .int .i64 q.y, .int .i64 0, .int .i64 0] rfl (by unfold maxLen; simp)
        have hsw := bwd.size
        have hszd : w.heap.size ≤ (wr.drew.alloc (.cells #[.string q.p, .int .i64 q.x, .int .i64 q.y, .int .i64 0, .int .i64 0] 35)).heap.size := by rw [World.size_alloc]; omega
        have hml : ys.length + 1 ≤ maxLen := by unfold maxLen; omega
        have hbl : (ys.length + 1) * 48 ≤ 140737488355328 := by omega
        go_region_law (refine step_append_at _ (by exact rfl) (.tmp 31) (.tmp 43) 43 (by exact rfl) w.heap.size 35 k0 (.agg #[.string ByteArray.empty, .int .i64 0, .int .i64 0, .int .i64 0, .int .i64 0]) 5 48 Tryd.underlying43 hki hkz0 hkz1 hkz2 rfl (by decide) u5 ys.length _ (by go_simp) hoP encK_len encK_one (some ⟨wr.heap.size, 0, none⟩) 1 1 [remK q] (by go_simp) rfl hnP hml hbl hszd ?_; intro v3 w3 ho3 hg3 hv3)
        all_goals
          go_wp2_with fail
          go_roundw
          case rel => exact ⟨k + 1, (m : Int) - 1, ys ++ [remK q], by omega, by omega, by first | rfl | go_num, by simp; omega, HN, by rw [List.length_append, List.flatMap_append]; exact ho3, below_app (w := w) (below_alloc bwd _) hg3 (own_ge ho)⟩
          case measure => simp [intOf] <;> omega
      | false =>
        obtain ⟨u, hu⟩ : ∃ u, underL s.data.toList q.p.data.toList = u := ⟨_, rfl⟩
        have HU := Lib.hid hu
        clear hu
        go_wp2_with fail
        refine (specUnder_any s q.p _ hs hqz).mono ?_
        rw [HU.out]
        rintro e w' ⟨rfl, rfl⟩
        have HSU := Lib.hid (show selB s.data.toList q = u by unfold selB; rw [show decide (q.s = s.data.toList) = false from HR1.out, show underL s.data.toList q.s = u from HU.out]; rfl)
        cases u with
        | false =>
          have HN := Lib.hid (show ys = remT l s.data.toList (k + 1) by rw [remT_no hk1 hk2 HQ.out HSU.out, ← HY.out])
          go_wp2_with fail
          go_roundw
          case rel => exact ⟨k + 1, (m : Int) - 1, ys, by omega, by omega, by first | rfl | go_num, by omega, HN, ho, hbw⟩
          case measure => simp [intOf] <;> omega
        | true =>
          have HS := Lib.hid (show selB s.data.toList q = true from HSU.out)
          have HN := Lib.hid (show ys ++ [remK q] = remT l s.data.toList (k + 1) by rw [remT_yes hk1 hk2 HQ.out HS.out, ← HY.out])
          go_upto_region 6 with fail
          have bwd : Below w.heap.size w wr.drew := hbw.drew
          have hod := own_belowS ho (Below.refl wr.heap.size wr).drew
          have hoP := hod.alloc (.cells #[.string q.p, .int .i64 q.x, .int .i64 q.y, .int .i64 0, .int .i64 0] 35)
          have hnP := at_new (enc := encK) wr.drew encK_len [remK q] 35 #[.string q.p, .int .i64 q.x, .int .i64 q.y, .int .i64 0, .int .i64 0] rfl (by unfold maxLen; simp)
          have hsw := bwd.size
          have hszd : w.heap.size ≤ (wr.drew.alloc (.cells #[.string q.p, .int .i64 q.x, .int .i64 q.y, .int .i64 0, .int .i64 0] 35)).heap.size := by rw [World.size_alloc]; omega
          have hml : ys.length + 1 ≤ maxLen := by unfold maxLen; omega
          have hbl : (ys.length + 1) * 48 ≤ 140737488355328 := by omega
          go_region_law (refine step_append_at _ (by exact rfl) (.tmp 31) (.tmp 43) 43 (by exact rfl) w.heap.size 35 k0 (.agg #[.string ByteArray.empty, .int .i64 0, .int .i64 0, .int .i64 0, .int .i64 0]) 5 48 Tryd.underlying43 hki hkz0 hkz1 hkz2 rfl (by decide) u5 ys.length _ (by go_simp) hoP encK_len encK_one (some ⟨wr.heap.size, 0, none⟩) 1 1 [remK q] (by go_simp) rfl hnP hml hbl hszd ?_; intro v3 w3 ho3 hg3 hv3)
          all_goals
            go_wp2_with fail
            go_roundw
            case rel => exact ⟨k + 1, (m : Int) - 1, ys ++ [remK q], by omega, by omega, by first | rfl | go_num, by simp; omega, HN, by rw [List.length_append, List.flatMap_append]; exact ho3, below_app (w := w) (below_alloc bwd _) hg3 (own_ge ho)⟩
            case measure => simp [intOf] <;> omega
    · obtain rfl : k = n := by omega
      obtain rfl : z = -1 := by omega
      have HN := Lib.hid (show ys = remL l s.data.toList by rw [HY.out, remT_all HL.out])
      go_wp2_with fail
      go_ret
      exact OutR.of rfl HN.out ho hbw

set_option maxHeartbeats 2000000 in
theorem specRemoveAll_any (A : Option Addr) (n c : Nat) (l : List Nod) (s : ByteArray) (w : World) (hn : n ≤ 1048576) (hl : l.length = n) (ha : At encN 3 w A l) (hz : ∀ q ∈ l, q.p.size ≤ 1048576) (hs : s.size ≤ 1048576) :
    Calls Tryd.prog 41 #[.slice A n c, .string s] w (OutB encK 5 35 (RemR l s.data.toList) w) := by
  have HL := Lib.hid hl
  clear hl
  obtain ⟨D, hD⟩ : ∃ D, depthL s.data.toList = D := ⟨_, rfl⟩
  have HD := Lib.hid hD
  obtain ⟨⟨gx, gy⟩, hget⟩ : ∃ g, getN l s.data.toList = g := ⟨_, rfl⟩
  have HG := Lib.hid hget
  clear hD hget
  go_enter Tryd.func41, Tryd.ntmps41
  go_wp2_with fail
  refine (specTree_any A n c l _ (by omega) HL.out ha hz).mono ?_
  rintro e w1 ⟨b, rfl, hb', hb1⟩
  have HB := Lib.hid hb'
  clear hb'
  cases b with
  | false =>
    have HN := Lib.hid (show ¬ RemG l s.data.toList from fun h => by have := HB.out.2 h.1; cases this)
    go_wp2_with fail
    refine bodyPost_ret (v := .tuple #[.slice (some ⟨w1.heap.size, 0, none⟩) 0 0, .bool false]) (by simp [results, Tryd.results41, go_sem]) rfl ?_
    exact OutB.lit (.inr ⟨HN.out, rfl, rfl⟩) hb1
  | true =>
    have HT := Lib.hid (HB.out.1 (by first | rfl | trivial))
    go_wp2_with fail
    refine (specDepth_any s _ hs).mono ?_
    rw [HD.out]
    rintro e w2 ⟨rfl, hb2⟩
    have bw2 := below_step hb1 hb2
    by_cases hd : D < 1
    · have hd' : decide (D < 1) = true := decide_eq_true hd
      have HN := Lib.hid (show ¬ RemG l s.data.toList from fun h => by have h1 := h.2.1; rw [HD.out] at h1; omega)
      go_wp2_with fail
      refine bodyPost_ret (v := .tuple #[.slice (some ⟨w2.heap.size, 0, none⟩) 0 0, .bool false]) (by simp [results, Tryd.results41, go_sem]) rfl ?_
      exact OutB.lit (.inr ⟨HN.out, rfl, rfl⟩) bw2
    have hd' : decide (D < 1) = false := decide_eq_false hd
    have hfl := fieldX
    go_wp2_with fail
    refine (specGet_any A n c l s _ (by omega) HL.out (ha.belowS bw2)).mono ?_
    rintro e w4 ⟨x', y', rfl, hget', hb4⟩
    obtain ⟨rfl, rfl⟩ := Prod.mk.inj (HG.out.symm.trans hget')
    have bw4 := below_step bw2 hb4
    clear hget'
    by_cases hg : gx = 0
    · have hg' : (gx == 0) = true := by rw [hg]; rfl
      have HX := Lib.hid hg
      clear hg
      have HN := Lib.hid (show ¬ RemG l s.data.toList from fun h => by have h1 := h.2.2; rw [HG.out] at h1; exact h1 HX.out)
      go_wp2_with fail
      refine bodyPost_ret (v := .tuple #[.slice (some ⟨w4.heap.size, 0, none⟩) 0 0, .bool false]) (by simp [results, Tryd.results41, go_sem]) rfl ?_
      exact OutB.lit (.inr ⟨HN.out, rfl, rfl⟩) bw4
    have hg' : (gx == 0) = false := by simpa using hg
    have HX := Lib.hid hg
    clear hg
    go_wp2_with fail
    refine (specRem_any A n c l s _ hn HL.out (ha.belowS bw4) hz hs).mono ?_
    rintro e w5 ⟨A5, c5, ys, rfl, hys, ho5, hb5⟩
    have bw5 := below_step bw4 hb5
    have HY := Lib.hid (show ys = remL l s.data.toList from hys)
    have HC := Lib.hid (show RemG l s.data.toList from ⟨HT.out, by rw [HD.out]; omega, by rw [HG.out]; exact HX.out⟩)
    clear hys
    go_wp2_with fail
    refine bodyPost_ret (v := .tuple #[.slice A5 ys.length c5, .bool true]) (by simp [results, Tryd.results41, go_sem]) rfl ?_
    exact ⟨A5, c5, ys, true, rfl, .inl ⟨HC.out, rfl, HY.out⟩, own_mono ho5 bw4.size, bw5⟩

set_option maxHeartbeats 2000000 in
theorem implFrom_any (A : Option Addr) (n c : Nat) (l : List Nod) (s : ByteArray) (w : World) (hn : n ≤ 1048576) (hl : l.length = n) (ha : At encN 3 w A l) (hT : TreeP l) (hp : pathB s.data.toList = true) :
    Calls Tryd.prog 83 #[.slice A n c, .string s] w (OutR encN 3 73 (fun ys => ys = l.filter (selB s.data.toList)) w) := by
  obtain ⟨n0, hin, hzn0, hzn1, hzn2⟩ := info_parts infoN
  have HL := Lib.hid hl
  have HT := Lib.hid hT
  have HPF := Lib.hid hp
  clear hl hT hp
  go_enter Tryd.func83, Tryd.ntmps83
  go_wp2_with fail
  go_loopw [5, 10] (fun v i wr => ∃ (k : Nat) (ys : List Nod), i = .int .i64 k ∧ k ≤ n ∧ ys.length ≤ k ∧ Hid (ys = (l.take k).filter (selB s.data.toList)) ∧ wr.ownsRow w.heap.size 73 3 v ys.length (ys.flatMap encN) ∧ Below w.heap.size w wr) (fun _ i _ => n - (intOf i).toNat)
  case atStart => exact ⟨0, [], rfl, Nat.zero_le _, Nat.le_refl _, Lib.hid (by simp), World.ownsRow_nil _ _ _ _, Below.refl _ _⟩
  case round =>
    obtain ⟨k, ys, rfl, hk, hys, HY, ho, hbw⟩ := hrel
    by_cases hlt : k < n
    · have hlk : k < l.length := by rw [HL.out]; exact hlt
      have hidx := fun W => run_index_any (c := c) Tryd.underlying29 hin hzn1 (ha.addr (by omega)) hlt W
      obtain ⟨q, hq⟩ : ∃ q, l[k] = q := ⟨_, rfl⟩
      have HQ := Lib.hid hq
      have HQP := Lib.hid (HT.out.ok (show q ∈ l from hq ▸ List.getElem_mem _)).path.1
      obtain ⟨c0, c1, c2⟩ := at3 (ha.belowS hbw) hlk hq
      clear hq
      have P0 := Blk.new wr 73 #[.string q.p, .int .i64 q.x, .int .i64 q.y]
      have bw0 := below_alloc hbw (.cells #[.string q.p, .int .i64 q.x, .int .i64 q.y] 73)
      have ho0 := ho.alloc (.cells #[.string q.p, .int .i64 q.x, .int .i64 q.y] 73)
      obtain ⟨g, hg⟩ : ∃ g, wr.heap.size = g := ⟨_, rfl⟩
      obtain ⟨W0, hW0⟩ : ∃ W0, W0 = wr.alloc (.cells #[.string q.p, .int .i64 q.x, .int .i64 q.y] 73) := ⟨_, rfl⟩
      rw [hg, ← hW0] at P0
      rw [← hW0] at bw0 ho0
      clear ho
      go_upto_region 5 with fail
      try rw [hg]
      rw [← hW0]
      clear hg hW0 c0 c1 c2
      obtain ⟨d0, d1, d2⟩ := blk3 P0
      obtain ⟨r1, hr1⟩ : ∃ r1, decide (q.p.data.toList = s.data.toList) = r1 := ⟨_, rfl⟩
      have HR1 := Lib.hid hr1
      have hl1 : (q.p.toList == s.toList) = r1 := by rw [toList_is rfl, toList_is rfl, ← hr1, Bool.eq_iff_iff]; simp
      clear hr1
      cases r1 with
      | true =>
        have HS := Lib.hid (show selB s.data.toList q = true from by unfold selB; rw [show decide (q.s = s.data.toList) = true from HR1.out]; rfl)
        have HN := Lib.hid (show ys ++ [q] = (l.take (k + 1)).filter (selB s.data.toList) by rw [from_snoc hlk, HQ.out, HS.out, ← HY.out]; rfl)
        have hoP := ho0.alloc (.cells #[.string q.p, .int .i64 q.x, .int .i64 q.y] 73)
        have hnP := at_new (enc := encN) W0 encN_len [q] 73 #[.string q.p, .int .i64 q.x, .int .i64 q.y] rfl (by unfold maxLen; simp)
        have hsw := bw0.size
        go_wp2_with (at_builtin; refine wpList_append_at _ rfl _ _ 29 rfl w.heap.size 73 n0 (.agg #[.string ByteArray.empty, .int .i64 0, .int .i64 0]) 3 32 Tryd.underlying29 hin hzn0 hzn1 hzn2 rfl (by decide) _ ys.length _ rfl hoP encN_len encN_one _ 1 1 [q] rfl rfl hnP (by unfold maxLen; omega) (by omega) (by rw [World.size_alloc]; omega) ?_; intro v3 w3 ho3 hg3 hv3)
        go_roundw
        case rel => exact ⟨k + 1, ys ++ [q], by go_num, by omega, by simp; omega, HN, by rw [List.length_append, List.flatMap_append]; exact ho3, below_app (w := w) (below_alloc bw0 _) hg3 (own_ge ho0)⟩
        case measure => simp [intOf]; omega
      | false =>
        obtain ⟨u, hu⟩ : ∃ u, underL s.data.toList q.p.data.toList = u := ⟨_, rfl⟩
        have HU := Lib.hid hu
        clear hu
        go_wp2_with fail
        refine (implUnder_any s q.p _ HPF.out HQP.out).mono ?_
        rw [HU.out]
        rintro e w' ⟨rfl, rfl⟩
        have HSU := Lib.hid (show selB s.data.toList q = u by unfold selB; rw [show decide (q.s = s.data.toList) = false from HR1.out, show underL s.data.toList q.s = u from HU.out]; rfl)
        cases u with
        | false =>
          have HN := Lib.hid (show ys = (l.take (k + 1)).filter (selB s.data.toList) by rw [from_snoc hlk, HQ.out, HSU.out, ← HY.out]; simp)
          go_wp2_with fail
          go_roundw
          case rel => exact ⟨k + 1, ys, by go_num, by omega, by omega, HN, ho0, bw0⟩
          case measure => simp [intOf]; omega
        | true =>
          have HS := Lib.hid (show selB s.data.toList q = true from HSU.out)
          have HN := Lib.hid (show ys ++ [q] = (l.take (k + 1)).filter (selB s.data.toList) by rw [from_snoc hlk, HQ.out, HS.out, ← HY.out]; rfl)
          have hoP := ho0.alloc (.cells #[.string q.p, .int .i64 q.x, .int .i64 q.y] 73)
          have hnP := at_new (enc := encN) W0 encN_len [q] 73 #[.string q.p, .int .i64 q.x, .int .i64 q.y] rfl (by unfold maxLen; simp)
          have hsw := bw0.size
          go_wp2_with (at_builtin; refine wpList_append_at _ rfl _ _ 29 rfl w.heap.size 73 n0 (.agg #[.string ByteArray.empty, .int .i64 0, .int .i64 0]) 3 32 Tryd.underlying29 hin hzn0 hzn1 hzn2 rfl (by decide) _ ys.length _ rfl hoP encN_len encN_one _ 1 1 [q] rfl rfl hnP (by unfold maxLen; omega) (by omega) (by rw [World.size_alloc]; omega) ?_; intro v3 w3 ho3 hg3 hv3)
          go_roundw
          case rel => exact ⟨k + 1, ys ++ [q], by go_num, by omega, by simp; omega, HN, by rw [List.length_append, List.flatMap_append]; exact ho3, below_app (w := w) (below_alloc bw0 _) hg3 (own_ge ho0)⟩
          case measure => simp [intOf]; omega
    · obtain rfl : n = k := by omega
      have HN := Lib.hid (show ys = l.filter (selB s.data.toList) by rw [HY.out, List.take_of_length_le (by rw [HL.out]; exact Nat.le_refl _)])
      go_wp2_with fail
      go_ret
      exact OutR.of rfl HN.out ho hbw

/-- Between two rounds. -/
def RemI (w : World) (g0 Bs : Nat) (A3 : Option Addr) (N c3 : Nat) (fs : List Nod) (pre : List (Nat × NodS2)) (W : World) : Prop :=
  ((∃ v, Boxed W g0 43 v ∧ W.ownsRow w.heap.size 35 5 v pre.length ((pre.map fun x => remK x.2.1).flatMap encK) ∧ (0 < N → some (blk A3) ≠ v.ownBlock)) ∧ Boxed W Bs 29 (.slice A3 N c3)) ∧ Below w.heap.size w W
def RemAx (g0 Bs : Nat) (A : Option Addr) (n c : Nat) (s : ByteArray) (z : Int) (A3 : Option Addr) (N c3 : Nat) (x : Nat × NodS2) (a' : Act) (W : World) : Prop :=
  ∃ Bx, Bs < Bx ∧ Blk W Bx 73 #[.string x.2.1.p, .int .i64 x.2.1.x, .int .i64 x.2.1.y] ∧ a' = { tmps := #[.slice A n c, .string s, undef, undef, .slice none 0 0, .bool false, .pointer (some ⟨g0, 0, none⟩), undef, .pointer (some ⟨Bx, 0, none⟩), .slice A n c, .bool true, .bool false, .bool false, .string s, .bool true, .bool false, .bool false, .bool false, .slice A n c, .string s, .int .i64 z, .bool false, .bool false, .slice A n c, .string s, .slice A3 N c3, .func (.func 120) #[] #[.pointer (some ⟨Bs, 0, none⟩)], .int .i64 (x.1 : Int), .agg #[.string x.2.1.p, .int .i64 x.2.1.x, .int .i64 x.2.1.y], undef, undef, undef, undef, undef, undef, undef, undef, undef], defers := [] }
theorem remI_own {w : World} {g0 Bs : Nat} {A3 : Option Addr} {N c3 B : Nat} {fs : List Nod} (hB : w.heap.size ≤ B) : OwnFrom B (RemI w g0 Bs A3 N c3 fs) := by
  intro s X Y row hs hg hr
  obtain ⟨⟨⟨v, hv, hrow, hne⟩, bN1⟩, hB1⟩ := hs
  exact ⟨⟨⟨v, blk_ownF (α := Unit) hv hg hr, own_ownF hrow hg hr, hne⟩, blk_ownF (α := Unit) bN1 hg hr⟩, hB1.grown hg (Nat.le_trans (Nat.le_refl _) hB1.size) (fun k e => Nat.le_trans hB (hr k e).1)⟩
theorem remAx_own {g0 Bs : Nat} {A : Option Addr} {n c : Nat} {s : ByteArray} {z : Int} {A3 : Option Addr} {N c3 B : Nat} (x : Nat × NodS2) (a' : Act) : OwnFrom B (fun (_ : Unit) W => RemAx g0 Bs A n c s z A3 N c3 x a' W) := by
  intro s X Y row hs hg hr
  obtain ⟨Bx, h1, h2, h3⟩ := hs
  exact ⟨Bx, h1, blk_ownF (α := Unit) h2 hg hr, h3⟩
theorem wpListIn_append_at {F : Fence} {n : Nat} {P : Program} {ops : Array Oper} {rest : List Oper} {o : Oper} {a : Act} {w : World} {Q : Exit → Act → World → Prop} (hgd : o.guard = none) (s x : Operand) (t : TypeId)
    (ho : o.op = .call { callee := .builtin .append, args := #[s, x], argTypes := #[t, t] })
    (base : Nat) (e : TypeId) (i : TypeInfo) (z : Value) (k bytes : Nat) (ht : P.underlying t = some (.slice e)) (hi : P.info? e = some i) (hz : i.zero = some z)
    (hsize : i.size = k) (hby : i.bytes = bytes) (hzs : z.cells.size = k) (hsz : 0 < k)
    (v : Value) (nn : Nat) (xs : List Value) (hs : a.eval s = v) (hown : w.ownsRow base e k v nn xs)
    {α : Type} {enc : α → List Value} (hk : ∀ x, (enc x).length = k) (h1 : ∀ x, ∀ u ∈ enc x, u.oneCell' = true) (A : Option Addr) (m c : Nat) (ys : List α) (hx : a.eval x = .slice A m c) (hm : ys.length = m) (hr : At enc k w A ys)
    (h63 : nn + m ≤ maxLen) (hbytes : (nn + m) * bytes ≤ 140737488355328) (hbase : base ≤ w.heap.size)
    (h : ∀ v' w', w'.ownsRow base e k v' (nn + m) (xs ++ ys.flatMap enc) → w.grownBy w' v.ownBlock → (v'.ownBlock = v.ownBlock ∨ v'.ownBlock = some w.heap.size) → wpListIn F n P ops Q rest (a.put o.dst v') w') : wpListIn F n P ops Q (o :: rest) a w := by
  obtain ⟨v', w', hrun, h2, h3, h4⟩ := run_append_at (P := P) w base t o.type e i z k bytes ht hi hz hsize hby hzs hsz v nn xs hown hk h1 A m c ys hm hr h63 hbytes hbase
  refine wpListIn_plain hgd fun K hK => ?_
  unfold Oper.wpIn
  refine ⟨?_, ?_⟩
  · simp [Oper.about, ho, resolve, Target.leads, Sem.run_pure]
  · rw [Oper.semAt_plain F _ _ (by rw [ho]; intro c hc'; cases hc')]
    simp [execOp, ho, resolve, invoke, builtin, hs, hx, hrun, Result.andThen]
    exact hK _ _ (h v' w' h2 h3 h4)

attribute [local go_sem] Oper.semAt_some
set_option maxRecDepth 100000 in
set_option maxHeartbeats 2000000 in
theorem implRemoveAll_any (A : Option Addr) (n c : Nat) (l : List Nod) (s : ByteArray) (w : World) (hn : n ≤ 1048576) (hl : l.length = n) (ha : At encN 3 w A l) (hz : ∀ q ∈ l, q.p.size ≤ 1048576) (hs : s.size ≤ 1048576) (hm : MaxAt w) :
    Calls Tryd.prog 42 #[.slice A n c, .string s] w (OutB encK 5 35 (RemR l s.data.toList) w) := by
  obtain ⟨k0, hki, hkz0, hkz1, hkz2⟩ := info_parts infoK
  have HL := Lib.hid hl
  have HMX := Lib.hid hm
  obtain ⟨pb, hpb⟩ : ∃ pb, pathB s.data.toList = pb := ⟨_, rfl⟩
  have HP := Lib.hid hpb
  obtain ⟨z, hz0⟩ : ∃ z, posI l s.data.toList = z := ⟨_, rfl⟩
  have HZ := Lib.hid hz0
  obtain ⟨bt, hbt⟩ : ∃ bt : Bool, bt = true ↔ TreeP l := by
    by_cases h : TreeP l
    · exact ⟨true, by simp [h]⟩
    · exact ⟨false, by simp [h]⟩
  have HBT := Lib.hid hbt
  clear hl hm hpb hz0 hbt
  refine (callsIn_wide (n := 8)).1 ?_
  refine callsIn_of_wp_marks Tryd.func42 rfl trivial ?_ rfl
  simp only [Tryd.ntmps42, List.size_toArray, List.length_cons, List.length_nil, Nat.reduceAdd, Nat.reduceSub, Array.replicate_succ, Array.replicate_zero, List.push_toArray, List.append_toArray, List.nil_append, List.cons_append]
  cases bt with
  | false =>
    have HN := Lib.hid (show ¬ RemG l s.data.toList from fun h => by have := HBT.out.2 h.1; cases this)
    gi_wp2_with (first
          | (refine ⟨trivial, ?_⟩; gi_at_call 55; refine (callsIn_wide.2 (implTree_any A n c l _ (by omega) HL.out ha hz HMX.out)).mono ?_; rintro e w1 ⟨bt', rfl, hbt', hb1⟩; obtain rfl : bt' = false := same_tells hbt' HBT.out; clear hbt')
          | (refine ⟨trivial, ?_⟩; gi_at_call 67; refine (callsIn_wide.2 (implPath_any s _ hs (HMX.out.belowS hb1))).mono ?_; rw [HP.out]; rintro e w2 ⟨rfl, hb2⟩; have bw2 := below_step hb1 hb2)
          | (refine ⟨trivial, ?_⟩; gi_at_call 68; refine (callsIn_wide.2 (implFind_any A n c l s _ (by omega) HL.out (ha.belowS bw2))).mono ?_; rw [HZ.out]; rintro e w3 ⟨rfl, hb3⟩; have bw3 := below_step bw2 hb3; have hgw3 := bw3.size)
          | (refine ⟨trivial, ?_⟩))
    exact ⟨.tuple #[.slice none 0 0, .bool false], by simp [results, Tryd.results42, go_sem], OutB.nil (.inr ⟨HN.out, rfl, rfl⟩) hb1⟩
  | true =>
    have HT := Lib.hid (HBT.out.1 (by first | rfl | trivial))
    cases pb with
    | false =>
      have HN := Lib.hid (show ¬ RemG l s.data.toList from fun h => by have h1 := (depth_pos.1 h.2.1).1; rw [HP.out] at h1; cases h1)
      gi_wp2_with (first
            | (refine ⟨trivial, ?_⟩; gi_at_call 55; refine (callsIn_wide.2 (implTree_any A n c l _ (by omega) HL.out ha hz HMX.out)).mono ?_; rintro e w1 ⟨bt', rfl, hbt', hb1⟩; obtain rfl : bt' = true := same_tells hbt' HBT.out; clear hbt')
            | (refine ⟨trivial, ?_⟩; gi_at_call 67; refine (callsIn_wide.2 (implPath_any s _ hs (HMX.out.belowS hb1))).mono ?_; rw [HP.out]; rintro e w2 ⟨rfl, hb2⟩; have bw2 := below_step hb1 hb2)
            | (refine ⟨trivial, ?_⟩; gi_at_call 68; refine (callsIn_wide.2 (implFind_any A n c l s _ (by omega) HL.out (ha.belowS bw2))).mono ?_; rw [HZ.out]; rintro e w3 ⟨rfl, hb3⟩; have bw3 := below_step bw2 hb3; have hgw3 := bw3.size)
            | (refine ⟨trivial, ?_⟩))
      exact ⟨.tuple #[.slice none 0 0, .bool false], by simp [results, Tryd.results42, go_sem], OutB.nil (.inr ⟨HN.out, rfl, rfl⟩) bw2⟩
    | true =>
      by_cases hg : z < 0
      · have hg' : decide (z < 0) = true := decide_eq_true hg
        have HX := Lib.hid (show ¬ RemG l s.data.toList from fun h => by
          have h1 := HT.out.pos_lt (depth_pos.1 h.2.1).2
          rw [HZ.out, hg'] at h1
          exact h.2.2 (of_decide_eq_true h1.symm))
        clear hg
        have HN := Lib.hid (show ¬ RemG l s.data.toList from fun h => HX.out h)
        gi_wp2_with (first
              | (refine ⟨trivial, ?_⟩; gi_at_call 55; refine (callsIn_wide.2 (implTree_any A n c l _ (by omega) HL.out ha hz HMX.out)).mono ?_; rintro e w1 ⟨bt', rfl, hbt', hb1⟩; obtain rfl : bt' = true := same_tells hbt' HBT.out; clear hbt')
              | (refine ⟨trivial, ?_⟩; gi_at_call 67; refine (callsIn_wide.2 (implPath_any s _ hs (HMX.out.belowS hb1))).mono ?_; rw [HP.out]; rintro e w2 ⟨rfl, hb2⟩; have bw2 := below_step hb1 hb2)
              | (refine ⟨trivial, ?_⟩; gi_at_call 68; refine (callsIn_wide.2 (implFind_any A n c l s _ (by omega) HL.out (ha.belowS bw2))).mono ?_; rw [HZ.out]; rintro e w3 ⟨rfl, hb3⟩; have bw3 := below_step bw2 hb3; have hgw3 := bw3.size)
              | (refine ⟨trivial, ?_⟩))
        exact ⟨.tuple #[.slice none 0 0, .bool false], by simp [results, Tryd.results42, go_sem], OutB.nil (.inr ⟨HN.out, rfl, rfl⟩) bw3⟩
      have hg' : decide (z < 0) = false := decide_eq_false hg
      have h47 : s.data.toList ≠ [47] := fun h => by
        have h1 := HZ.out
        rw [h, posI_none HT.out.posRoot] at h1
        omega
      have HG := Lib.hid (show RemG l s.data.toList from ⟨HT.out, depth_pos.2 ⟨HP.out, h47⟩, fun h0 => by
        have h1 := HT.out.pos_lt h47
        rw [HZ.out, hg', h0] at h1
        simp at h1⟩)
      clear hg h47
      gi_wp2_with (first
      | (refine ⟨trivial, ?_⟩; gi_at_call 55; refine (callsIn_wide.2 (implTree_any A n c l _ (by omega) HL.out ha hz HMX.out)).mono ?_; rintro e w1 ⟨bt', rfl, hbt', hb1⟩; obtain rfl : bt' = true := same_tells hbt' HBT.out; clear hbt')
      | (refine ⟨trivial, ?_⟩; gi_at_call 67; refine (callsIn_wide.2 (implPath_any s _ hs (HMX.out.belowS hb1))).mono ?_; rw [HP.out]; rintro e w2 ⟨rfl, hb2⟩; have bw2 := below_step hb1 hb2)
      | (refine ⟨trivial, ?_⟩; gi_at_call 68; refine (callsIn_wide.2 (implFind_any A n c l s _ (by omega) HL.out (ha.belowS bw2))).mono ?_; rw [HZ.out]; rintro e w3 ⟨rfl, hb3⟩; have bw3 := below_step bw2 hb3; have hgw3 := bw3.size)
      | (refine ⟨trivial, ?_⟩; gi_at_call 83; refine (callsIn_wide.2 (implFrom_any A n c l s _ hn HL.out (ha.belowS (below_alloc bw3 (.cells #[.slice none 0 0] 43))) HT.out HP.out)).mono ?_; rintro e w4 ⟨A3, c3, fs, rfl, hfs, ho4, hb4⟩; have HFS := Lib.hid hfs; clear hfs; obtain ⟨N, hN⟩ : ∃ N, fs.length = N := ⟨_, rfl⟩; have HN3 := Lib.hid hN; rw [hN] at ho4 ⊢; clear hN)
      | (refine ⟨trivial, ?_⟩; gi_at_call 82; refine (back2N_in Fence.wide _ trivial rfl A3 N c3 _).mono ?_; rintro e w5 ⟨rfl, rfl⟩))
      have hgx : (w3.alloc (.cells #[.slice none 0 0] 43)).heap.size = w3.heap.size + 1 := by simp
      have bw4 := below_step (below_alloc bw3 (.cells #[.slice none 0 0] 43)) hb4
      have hs4 := hb4.size
      rw [hgx] at hs4
      have bO : Boxed (w4.alloc (.cells #[.slice A3 N c3] 29)) w3.heap.size 43 (.slice none 0 0) := Boxed.alloc ((Blk.new w3 43 #[.slice none 0 0]).belowS hb4) _
      have bN := Boxed.new w4 29 (.slice A3 N c3)
      have hB0 := below_alloc bw4 (.cells #[.slice A3 N c3] 29)
      have at4 := own_at encN_len ho4 HN3.out
      have at5 := at4.belowS (below_alloc (Below.refl w4.heap.size w4) (.cells #[.slice A3 N c3] 29))
      have hblk : 0 < N → w3.heap.size < blk A3 ∧ blk A3 < w4.heap.size := fun h => by have := own_blk ho4 h; rw [hgx] at this; omega
      have hNn : N ≤ n := by rw [← HN3.out, HFS.out, ← HL.out]; exact List.length_filter_le _ _
      obtain ⟨zs, hzs⟩ : ∃ zs : List NodS2, zs.map (·.1) = fs := ⟨fs.attachWith _ (fun q hq => hz q (by rw [HFS.out] at hq; exact (List.mem_filter.1 hq).1)), by simp⟩
      have HZS := Lib.hid hzs
      have hzl : zs.length = N := by rw [← HN3.out, ← hzs, List.length_map]
      obtain ⟨W0, hW0⟩ : ∃ W0, w4.alloc (.cells #[.slice A3 N c3] 29) = W0 := ⟨_, rfl⟩
      obtain ⟨g0, hg0⟩ : ∃ g0, w3.heap.size = g0 := ⟨_, rfl⟩
      obtain ⟨Bs, hBs⟩ : ∃ Bs, w4.heap.size = Bs := ⟨_, rfl⟩
      have hsz : W0.heap.size = Bs + 1 := by rw [← hW0, ← hBs]; simp
      have hg0w : w.heap.size ≤ g0 := by rw [← hg0]; exact bw3.size
      have hgB : g0 < Bs := by omega
      rw [hW0, hg0] at bO
      rw [hW0, hBs] at bN
      rw [hW0] at hB0 at5 ⊢
      rw [hg0, hBs] at hblk
      try rw [hg0]
      try rw [hBs]
      clear hW0 hg0 hBs hs4 hgx bw4 at4 ho4 hb4 hb1 hzs
      refine wpIn_rangeFunc_ownH rfl (by omega) (gf := 120) (lb := #[.pointer (some ⟨Bs, 0, none⟩)]) rfl trivial (enters_of Tryd.func120 (by kernel_rfl) rfl)
        (back2N_stops Fence.wide 7 trivial rfl (by omega) Bs A3 N c3 zs hzl (by omega) W0 (by omega) bN.cell (by rw [HZS.out]; exact at5)) Keep2.trans (keep2_b (w := W0) (fun h => by have := hblk (by rw [← hzl]; exact h); omega) (by omega)) (Below.refl _ _) (fun _ => rfl)
        (RemI w g0 Bs A3 N c3 fs) (fun _ _ _ => False) (remI_own hB0.size) (fun _ _ _ _ _ hs _ _ => hs)
        ⟨⟨⟨_, bO, World.ownsRow_nil _ _ _ _, fun _ => by simp [Value.ownBlock]⟩, bN⟩, hB0⟩
        (RemAx g0 Bs A n c s z A3 N c3) (fun x a' => remAx_own x a')
        ?assign ?body ?done ?stop
      case assign =>
        rintro l' pre x W K ⟨⟨⟨v, hv, hrow, hne⟩, bN1⟩, hB1⟩ hK
        have hlB := bN1.lt
        gi_wp2
        exact hK _ _ ((KeepsOthers.alloc _ _).from _) ⟨fun h => Below.heap_alloc W _ _ (by have := hblk (by rw [← hzl]; exact h); omega), Below.heap_alloc W _ _ hlB, by simp⟩ ⟨⟨⟨v, hv.alloc _, hrow.alloc _, hne⟩, bN1.alloc _⟩, hB1.alloc hB1.size _⟩ ⟨W.heap.size, hlB, Blk.new W _ _, rfl⟩
      case body =>
        rintro l' pre ⟨x0, ⟨q, hqz⟩⟩ a' W hll ⟨r, hr⟩ ⟨⟨⟨v, hv, hrow, hne⟩, bN1⟩, hB1⟩ ⟨Bx, hBx, bX, rfl⟩ hlt
        have hc1 := hv.cell
        have hs1 := hB1.size
        have hlB := bN1.lt
        obtain ⟨x1, x2, x3⟩ := blk3 bX
        have hoP := hrow.alloc (.cells #[.string q.p, .int .i64 q.x, .int .i64 q.y, .int .i64 0, .int .i64 0] 35)
        have hnP := at_new (enc := encK) W encK_len [remK q] 35 #[.string q.p, .int .i64 q.x, .int .i64 q.y, .int .i64 0, .int .i64 0] rfl (by unfold maxLen; simp)
        gi_wp2_with (gi_at_builtin; refine wpListIn_append_at rfl _ _ 43 rfl w.heap.size 35 k0 (.agg #[.string ByteArray.empty, .int .i64 0, .int .i64 0, .int .i64 0, .int .i64 0]) 5 48 Tryd.underlying43 hki hkz0 hkz1 hkz2 rfl (by decide) v pre.length _ rfl hoP encK_len encK_one (some ⟨W.heap.size, 0, none⟩) 1 1 [remK q] rfl rfl hnP (by unfold maxLen; omega) (by omega) (by rw [World.size_alloc]; omega) ?_; intro v3 w3' ho3 hg3 hv3; obtain ⟨A5, c5, rfl, -, -, -⟩ := own_form ho3; obtain ⟨hvb, hvS, hrS, hkS, hbS⟩ := hv.appended (by decide) hrow hB1.size hg0w ho3 hg3; have hc3 := hvb.cell; have hf3 := hvb.frozen)
        have bN3 : Boxed (w3'.setCell ⟨g0, 0, none⟩ (.slice A5 (pre.length + 1) c5)) Bs 29 (.slice A3 N c3) := ((bN1.alloc _).kept hg3 (bN1.not_row (by decide) hrow)).other (by omega) _
        have hbk : 0 < zs.length → (w3'.setCell ⟨g0, 0, none⟩ (.slice A5 (pre.length + 1) c5)).heap[blk A3]? = W.heap[blk A3]? := fun h => by
          have h1 := hblk (by rw [← hzl]; exact h)
          have h2 : blk A3 < W.heap.size := by omega
          have h3 : blk A3 < (W.alloc (.cells #[.string q.p, .int .i64 q.x, .int .i64 q.y, .int .i64 0, .int .i64 0] 35)).heap.size := by rw [World.size_alloc]; omega
          refine ((grownBy_setCell' w3' g0 _).block (blk A3) (Nat.lt_of_lt_of_le h3 hg3.size) (fun e => by injection e with e; omega)).trans ?_
          exact (hg3.block (blk A3) h3 (hne (by rw [← hzl]; exact h))).trans (Below.heap_alloc W _ _ h2)
        have hne3 : 0 < N → some (blk A3) ≠ (Value.slice A5 (pre.length + 1) c5).ownBlock := fun h => by
          rcases hv3 with hv3 | hv3
          · rw [hv3]; exact hne h
          · rw [hv3, World.size_alloc]; intro e; injection e with e; have := hblk h; omega
        exact ⟨hkS.from _, ⟨(by first | exact hbk | exact fun h => hbk (by rw [hzl]; exact h)), bN3.trans bN1.symm, hbS.size⟩, ⟨⟨⟨_, hvS, by rw [List.length_append, List.map_append, List.flatMap_append]; exact hrS, hne3⟩, bN3⟩, hB1.trans hbS⟩⟩
      case done =>
        rintro D ys W hD hys ⟨⟨⟨v, hv, hrow, -⟩, bN1⟩, hB1⟩ hK
        obtain ⟨A6, c6, rfl, -, -, -⟩ := own_form hrow
        have hc := hv.cell
        have HY := Lib.hid (show (ys.map fun x => remK x.2.1) = remL l s.data.toList by
          have h1 : (ys.map fun x => remK x.2.1) = (ys.map (·.2)).map (fun q => remK q.1) := by rw [List.map_map]; rfl
          have h2 : (zs.reverse.map fun q => remK q.1) = (zs.map (·.1)).reverse.map remK := by rw [← List.map_reverse, List.map_map]; rfl
          rw [h1, hys, bk_all, h2, HZS.out, HFS.out]
          unfold remL
          rw [← List.filter_reverse]; rfl)
        clear hys
        gi_wp2
        refine ⟨by simp, .inl ⟨_, _, rfl, run_takeDeferred hK, ?_⟩⟩
        exact ⟨.tuple #[.slice A6 ys.length c6, .bool true], by simp [results, Tryd.results42, go_sem], OutB.of (by simp) (.inl ⟨HG.out, rfl, HY.out⟩) (ownsRow_putObj hrow _ hK rfl) (hB1.trans (belowK_b (w := w) (Nat.le_refl _) W D _ _ (Nat.le_trans hB0.size hD) hK rfl rfl))⟩
      case stop =>
        rintro D c pre W _ _ h _
        exact h.elim
end Go.Proofs.YtlhhplhciiobfaaDoor
