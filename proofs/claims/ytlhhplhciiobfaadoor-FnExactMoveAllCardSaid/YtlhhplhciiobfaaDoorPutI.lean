/- A content put at a path of a tree, by the program. -/
import Derived.Test.YtlhhplhciiobfaaDoorIns
import Derived.Test.YtlhhplhciiobfaaDoorPutS
import Derived.Test.YtlhhplhciiobfaaDoorTreeI
namespace Go.Proofs.YtlhhplhciiobfaaDoor
open Go.RowKit
set_option linter.unusedVariables false
set_option linter.unusedSimpArgs false
set_option maxRecDepth 20000

set_option maxHeartbeats 2000000 in
theorem implPut_any (A : Option Addr) (n c : Nat) (l : List Nod) (s : ByteArray) (x y : Int) (w : World) (hn : n ≤ 1099999) (hl : l.length = n) (ha : At encN 3 w A l) :
    Calls Tryd.prog 123 #[.slice A n c, .string s, .agg #[.int .i64 x, .int .i64 y]] w (OutR encN 3 73 (fun ys => ys = putL l ⟨s, x, y⟩) w) := by
  obtain ⟨i0, hi, hz0, hz1, hz2⟩ := info_parts infoN
  have HL := Lib.hid hl
  clear hl
  obtain ⟨W0, hW0⟩ : ∃ W0, W0 = (w.alloc (.cells #[.string s] 9)).alloc (.cells #[.int .i64 x, .int .i64 y] 33) := ⟨_, rfl⟩
  have S0 : Blk W0 w.heap.size 9 #[.string s] := by rw [hW0]; exact (Blk.new _ _ _).alloc _
  have C0 : Blk W0 (w.heap.size + 1) 33 #[.int .i64 x, .int .i64 y] := by
    rw [hW0]
    have := Blk.new (w.alloc (.cells #[.string s] 9)) 33 #[.int .i64 x, .int .i64 y]
    rwa [World.size_alloc] at this
  have bw0 : Below w.heap.size w W0 := by rw [hW0]; exact below_alloc (below_alloc (Below.refl _ _) _) _
  obtain ⟨g1, hg1⟩ : ∃ g1, w.heap.size + 1 = g1 := ⟨_, rfl⟩
  obtain ⟨g0, hg0⟩ : ∃ g0, w.heap.size = g0 := ⟨_, rfl⟩
  rw [hg1] at C0
  rw [hg0] at S0
  have hl0 := S0.lt
  have hl1 := C0.lt
  go_enter Tryd.func123, Tryd.ntmps123
  go_wp2_with fail
  rw [← hW0]
  try rw [hg1]
  try rw [hg0]
  rw [hg0] at hg1
  try rw [hg1]
  clear hW0 hg1 hg0
  refine (cloneTree_any A n c l _ 0 (by omega) HL.out (ha.belowS bw0) (Nat.zero_le _)).mono ?_
  rintro e w1 ⟨A1, c1, rfl, ho1, hb1⟩
  have bw1 := below_step bw0 hb1
  have S1 := S0.belowS hb1
  have C1 := C0.belowS hb1
  have hsz1 := hb1.size
  clear S0 C0 hb1
  go_wp2_with fail
  refine (delN_any g0 s A1 n c1 l _ W0.heap.size (by omega) HL.out ho1 hl0 (S1.cell 0)).mono ?_
  obtain ⟨D, hD⟩ : ∃ D, delL l s.data.toList = D := ⟨_, rfl⟩
  have HD := Lib.hid hD
  have hDl : D.length ≤ n := by rw [← hD, ← HL.out]; exact del_len _ _
  rw [hD]
  obtain ⟨m, hm⟩ : ∃ m, D.length = m := ⟨_, rfl⟩
  have HM := Lib.hid hm
  rw [hm] at hDl ⊢
  clear hD hm
  rintro e w2 ⟨rfl, ho2, hg2⟩
  have bw2 := below_only bw1 hg2 (rowOf_ge fun h => by have := (own_blk ho1 h).1; have := bw0.size; omega)
  have S2 := S1.grown hg2 (rowOf_ne' fun h => by have := (own_blk ho1 h).1; omega)
  have C2 := C1.grown hg2 (rowOf_ne' fun h => by have := (own_blk ho1 h).1; omega)
  have hsz2 : W0.heap.size ≤ w2.heap.size := Nat.le_trans hsz1 hg2.size
  clear S1 C1 ho1 hg2 bw1
  obtain ⟨p0, p1⟩ := blk2 C2
  by_cases hx : x = 0
  · have HX := Lib.hid hx
    have hx1 : (x == 0) = true := by rw [hx]; rfl
    have hx2 : (x != 0) = false := by rw [hx]; rfl
    clear hx
    go_wp2_with fail
    refine (cloneTree_any A1 m c1 D _ 0 (by omega) HM.out (own_at encN_len ho2 HM.out) (Nat.zero_le _)).mono ?_
    rintro e w3 ⟨A3, c3, rfl, ho3, hb3⟩
    go_wp2_with fail
    go_ret
    exact OutR.of HM.out (by unfold putL; rw [if_pos HX.out]; exact HD.out.symm) (own_mono ho3 bw2.size) (below_step bw2 hb3)
  · have HX := Lib.hid hx
    have hx1 : (x == 0) = false := by simpa using hx
    have hx2 : (x != 0) = true := by simpa using hx
    clear hx
    go_wp2_with fail
    clear hx1 hx2 p0 p1
    go_loopw [8] (fun i wr => ∃ k : Nat, i = .int .i64 k ∧ k ≤ m ∧ Hid (∀ j q, j < k → D[j]? = some q → Op.bytesLess q.s s.data.toList = true) ∧ wr.ownsRow W0.heap.size 73 3 (.slice A1 m c1) m (D.flatMap encN) ∧ Blk wr g0 9 #[.string s] ∧ Blk wr g1 33 #[.int .i64 x, .int .i64 y] ∧ W0.heap.size ≤ wr.heap.size ∧ Below w.heap.size w wr) (fun i _ => m - (intOf i).toNat)
    case atStart => exact ⟨0, rfl, Nat.zero_le _, Lib.hid (fun j q hj => by omega), ho2, S2, C2, hsz2, bw2⟩
    case round =>
      clear ho2 S2 C2 hsz2 bw2
      obtain ⟨k, rfl, hk, HK, hor, SR, CR, hsz, hbw⟩ := hrel
      have har := own_at encN_len hor HM.out
      have s0 : wr.cell? ⟨g0, 0, none⟩ = some (.string s) := SR.cell 0
      by_cases hlt : k < m
      · have hd : decide ((k : Int) < (m : Int)) = true := decide_eq_true (by omega)
        have hlk : k < D.length := by rw [HM.out]; exact hlt
        have hidx := fun W => run_index_any (c := c1) Tryd.underlying29 hi hz1 (har.addr (by omega)) hlt W
        obtain ⟨q, hq⟩ : ∃ q, D[k] = q := ⟨_, rfl⟩
        have HQ := Lib.hid (show D[k]? = some q by rw [List.getElem?_eq_getElem hlk, hq])
        obtain ⟨c0, c1', c2⟩ := at3 har hlk hq
        obtain ⟨r, hr⟩ : ∃ r, Op.bytesLess q.s s.data.toList = r := ⟨_, rfl⟩
        have HR := Lib.hid hr
        have hl3 : Op.bytesLess q.p.toList s.toList = r := by rw [toList_is rfl, toList_is rfl]; exact hr
        clear hq hr
        cases r with
        | true =>
          go_wp2_with fail
          first | (go_quiet (fail)) | fail
          all_goals
            go_wp2_with fail
            go_roundw
            case rel => exact ⟨k + 1, by go_num, by omega, Lib.hid (fun j p hj hp => by
              by_cases hjk : j = k
              · subst hjk; rw [HQ.out] at hp; injection hp with hp; subst hp; exact HR.out
              · exact HK.out j p (by omega) hp), hor, SR, CR, hsz, below_drawn hbw _⟩
            case measure => simp [intOf]; omega
        | false =>
          have HP := Lib.hid (show D.take k ++ ⟨s, x, y⟩ :: D.drop k = putL l ⟨s, x, y⟩ by
            unfold putL
            rw [if_neg HX.out]
            show _ = insL (delL l s.data.toList) _
            rw [HD.out, ins_at (q := ⟨s, x, y⟩) (k := k) (by omega) (fun j p hj hp => HK.out j p hj hp) (fun p hp => by rw [HQ.out] at hp; injection hp with hp; subst hp; exact HR.out)])
          go_wp2_with fail
          first | (go_quiet (fail)) | fail
          all_goals
            clear c0 c1' c2 hidx hl3 hd s0
            have hoN := (own_belowS hor (below_drawn (Below.refl wr.heap.size wr) nq)).alloc (.cells #[.string s, .int .i64 x, .int .i64 y] 73)
            have PN : Blk ((wr.drewN nq).alloc (.cells #[.string s, .int .i64 x, .int .i64 y] 73)) wr.heap.size 73 #[.string s, .int .i64 x, .int .i64 y] := Blk.new (wr.drewN nq) _ _
            have hsN : W0.heap.size ≤ ((wr.drewN nq).alloc (.cells #[.string s, .int .i64 x, .int .i64 y] 73)).heap.size := by rw [World.size_alloc]; show _ ≤ wr.heap.size + 1; omega
            obtain ⟨p0, p1⟩ := blk2 CR
            have s0 : wr.cell? ⟨g0, 0, none⟩ = some (.string s) := SR.cell 0
            go_wp2_with fail
            refine (insN_any A1 m c1 k wr.heap.size D s x y _ W0.heap.size (by omega) hk HM.out hoN (fun g hg => by have := (hor.lt g hg).2; omega) hsN PN).mono ?_
            rintro e w5 ⟨v5, rfl, ho5, hg5⟩
            obtain ⟨A5, c5, rfl, -, -, -⟩ := own_form ho5
            have hr5 : ∀ g, (Value.slice A1 m c1).ownBlock = some g → w.heap.size ≤ g := fun g hg => Nat.le_trans bw0.size (hor.lt g hg).1
            have bw5 : Below w.heap.size w w5 := by first | exact below_only (below_alloc (below_drawn hbw _) _) hg5 hr5 | exact below_only (below_drawn (below_alloc hbw _) _) hg5 hr5
            have hlen : (D.take k ++ ⟨s, x, y⟩ :: D.drop k).length = m + 1 := by rw [List.length_append, List.length_cons, List.length_take, List.length_drop, HM.out]; omega
            clear hoN PN hsN hr5 hg5 p0 p1 s0
            go_wp2_with fail
            refine (cloneTree_any A5 (m + 1) c5 _ _ 0 (by omega) hlen (own_at encN_len ho5 hlen) (Nat.zero_le _)).mono ?_
            rintro e w6 ⟨A6, c6, rfl, ho6, hb6⟩
            go_wp2_with fail
            go_ret
            exact OutR.of hlen HP.out (own_mono ho6 bw5.size) (below_step bw5 hb6)
      · have hd : decide ((k : Int) < (m : Int)) = false := decide_eq_false (by omega)
        have HP := Lib.hid (show D.take k ++ ⟨s, x, y⟩ :: D.drop k = putL l ⟨s, x, y⟩ by
          unfold putL
          rw [if_neg HX.out]
          show _ = insL (delL l s.data.toList) _
          rw [HD.out, ins_at (q := ⟨s, x, y⟩) (k := k) (by rw [HM.out]; omega) (fun j p hj hp => HK.out j p hj hp) (fun p hp => by rw [List.getElem?_eq_none (by rw [HM.out]; omega)] at hp; cases hp)])
        go_wp2_with fail
        first | (go_quiet (fail)) | fail
        all_goals
          clear hd s0
          have hoN := (own_belowS hor (below_drawn (Below.refl wr.heap.size wr) nq)).alloc (.cells #[.string s, .int .i64 x, .int .i64 y] 73)
          have PN : Blk ((wr.drewN nq).alloc (.cells #[.string s, .int .i64 x, .int .i64 y] 73)) wr.heap.size 73 #[.string s, .int .i64 x, .int .i64 y] := Blk.new (wr.drewN nq) _ _
          have hsN : W0.heap.size ≤ ((wr.drewN nq).alloc (.cells #[.string s, .int .i64 x, .int .i64 y] 73)).heap.size := by rw [World.size_alloc]; show _ ≤ wr.heap.size + 1; omega
          obtain ⟨p0, p1⟩ := blk2 CR
          have s0 : wr.cell? ⟨g0, 0, none⟩ = some (.string s) := SR.cell 0
          go_wp2_with fail
          refine (insN_any A1 m c1 k wr.heap.size D s x y _ W0.heap.size (by omega) hk HM.out hoN (fun g hg => by have := (hor.lt g hg).2; omega) hsN PN).mono ?_
          rintro e w5 ⟨v5, rfl, ho5, hg5⟩
          obtain ⟨A5, c5, rfl, -, -, -⟩ := own_form ho5
          have hr5 : ∀ g, (Value.slice A1 m c1).ownBlock = some g → w.heap.size ≤ g := fun g hg => Nat.le_trans bw0.size (hor.lt g hg).1
          have bw5 : Below w.heap.size w w5 := by first | exact below_only (below_alloc (below_drawn hbw _) _) hg5 hr5 | exact below_only (below_drawn (below_alloc hbw _) _) hg5 hr5
          have hlen : (D.take k ++ ⟨s, x, y⟩ :: D.drop k).length = m + 1 := by rw [List.length_append, List.length_cons, List.length_take, List.length_drop, HM.out]; omega
          clear hoN PN hsN hr5 hg5 p0 p1 s0
          go_wp2_with fail
          refine (cloneTree_any A5 (m + 1) c5 _ _ 0 (by omega) hlen (own_at encN_len ho5 hlen) (Nat.zero_le _)).mono ?_
          rintro e w6 ⟨A6, c6, rfl, ho6, hb6⟩
          go_wp2_with fail
          go_ret
          exact OutR.of hlen HP.out (own_mono ho6 bw5.size) (below_step bw5 hb6)

set_option maxHeartbeats 2000000 in
theorem implTreePut_any (A : Option Addr) (n c : Nat) (l : List Nod) (s : ByteArray) (x y : Int) (w : World) (hn : n ≤ 1099999) (hl : l.length = n) (ha : At encN 3 w A l) (hz : ∀ q ∈ l, q.p.size ≤ 1048576) (hs : s.size ≤ 1048576) (hm : MaxAt w) :
    Calls Tryd.prog 99 #[.slice A n c, .string s, .agg #[.int .i64 x, .int .i64 y]] w (OutB encN 3 73 (PutR l ⟨s, x, y⟩) w) := by
  have HL := Lib.hid hl
  have HMX := Lib.hid hm
  clear hl hm
  have P0 := Blk.new w 33 #[.int .i64 x, .int .i64 y]
  have bw0 := below_alloc (Below.refl w.heap.size w) (.cells #[.int .i64 x, .int .i64 y] 33)
  obtain ⟨g, hg⟩ : ∃ g, w.heap.size = g := ⟨_, rfl⟩
  obtain ⟨W0, hW0⟩ : ∃ W0, W0 = w.alloc (.cells #[.int .i64 x, .int .i64 y] 33) := ⟨_, rfl⟩
  rw [hg, ← hW0] at P0
  rw [← hW0] at bw0
  obtain ⟨pb, hpb⟩ : ∃ pb, pathB s.data.toList = pb := ⟨_, rfl⟩
  have HPB := Lib.hid hpb
  obtain ⟨oc, hoc⟩ : ∃ oc, okC x y = oc := ⟨_, rfl⟩
  have HOC := Lib.hid hoc
  clear hpb hoc
  go_enter Tryd.func99, Tryd.ntmps99
  go_upto_region 1 with fail
  try rw [hg]
  rw [← hW0]
  clear hg hW0
  go_wp2_with fail
  refine (implTree_any A n c l _ (by omega) HL.out (ha.belowS bw0) hz (HMX.out.belowS bw0)).mono ?_
  rintro e w1 ⟨b, rfl, hb, hb1⟩
  have bw1 := below_step bw0 hb1
  have P1 := P0.belowS hb1
  have HB := Lib.hid hb
  clear hb P0
  cases b with
  | false =>
    have HN := Lib.hid (show ¬ PutG l ⟨s, x, y⟩ from fun h => by have := HB.out.2 h.1.1; cases this)
    go_wp2_with fail
    refine bodyPost_ret (v := .tuple #[.slice none 0 0, .bool false]) (by simp [results, Tryd.results99, go_sem]) rfl ?_
    exact OutB.nil (.inr ⟨rfl, HN.out, rfl⟩) bw1
  | true =>
    go_wp2_with fail
    refine (implPath_any s _ hs (HMX.out.belowS bw1)).mono ?_
    rw [HPB.out]
    rintro e w2 ⟨rfl, hb2⟩
    have bw2 := below_step bw1 hb2
    have P2 := P1.belowS hb2
    clear P1
    cases pb with
    | false =>
      have HN := Lib.hid (show ¬ PutG l ⟨s, x, y⟩ from fun h => by have h1 := (depth_pos.1 h.1.2.1).1; rw [show (Nod.s ⟨s, x, y⟩) = s.data.toList from rfl, HPB.out] at h1; cases h1)
      go_wp2_with fail
      refine bodyPost_ret (v := .tuple #[.slice none 0 0, .bool false]) (by simp [results, Tryd.results99, go_sem]) rfl ?_
      exact OutB.nil (.inr ⟨rfl, HN.out, rfl⟩) bw2
    | true =>
      obtain ⟨p0, p1⟩ := blk2 P2
      go_wp2_with fail
      refine (implContentValid_any x y _).mono ?_
      rw [HOC.out]
      rintro e w3 ⟨rfl, hb3⟩
      have bw3 := below_step bw2 hb3
      have P3 := P2.belowS hb3
      clear P2 p0 p1
      cases oc with
      | false =>
        have HN := Lib.hid (show ¬ PutG l ⟨s, x, y⟩ from fun h => by have h1 := h.1.2.2; rw [HOC.out] at h1; cases h1)
        go_wp2_with fail
        refine bodyPost_ret (v := .tuple #[.slice none 0 0, .bool false]) (by simp [results, Tryd.results99, go_sem]) rfl ?_
        exact OutB.nil (.inr ⟨rfl, HN.out, rfl⟩) bw3
      | true =>
        by_cases hr : s.data.toList = [47]
        · have HN := Lib.hid (show ¬ PutG l ⟨s, x, y⟩ from fun h => (depth_pos.1 h.1.2.1).2 hr)
          have hx : (s.toList == [47]) = true := by rw [toList_beq hr]; rfl
          clear hr
          go_wp2_with fail
          refine bodyPost_ret (v := .tuple #[.slice none 0 0, .bool false]) (by simp [results, Tryd.results99, go_sem]) rfl ?_
          exact OutB.nil (.inr ⟨rfl, HN.out, rfl⟩) bw3
        have HG := Lib.hid (show TreeP l ∧ 0 < depthL s.data.toList ∧ okC x y = true from ⟨HB.out.1 (by first | rfl | trivial), depth_pos.2 ⟨HPB.out, hr⟩, HOC.out⟩)
        have hx : (s.toList == [47]) = false := by rw [toList_beq rfl]; exact decide_eq_false hr
        clear hr
        obtain ⟨p0, p1⟩ := blk2 P3
        go_wp2_with fail
        refine (implPut_any A n c l s x y _ (by omega) HL.out (ha.belowS bw3)).mono ?_
        rintro e w4 ⟨A4, c4, ys, rfl, hys, ho4, hb4⟩
        have bw4 := below_step bw3 hb4
        have HY := Lib.hid (show ys = putL l ⟨s, x, y⟩ from hys)
        have at4 := own_at encN_len ho4 rfl
        have hy0 : ys.length ≤ n + 1 := by rw [HY.out, ← HL.out]; exact put_len _ _
        have hyz : ∀ q ∈ ys, q.p.size ≤ 1048576 := fun q hq => by
          rw [HY.out] at hq
          rcases put_mem hq with rfl | h
          · exact hs
          · exact hz q h
        have ho5 := own_mono ho4 bw3.size
        clear hys P3 p0 p1
        go_wp2_with fail
        refine (implTree_any A4 ys.length c4 ys _ (by omega) rfl at4 hyz (HMX.out.belowS bw4)).mono ?_
        rintro e w5 ⟨b, rfl, hb, hb5⟩
        have bw5 := below_step bw4 hb5
        have HB5 := Lib.hid hb
        have ho6 := own_belowS ho5 hb5
        clear hb
        cases b with
        | false =>
          have HN := Lib.hid (show ¬ PutG l ⟨s, x, y⟩ from fun h => by have h1 := h.2; rw [← HY.out] at h1; have := HB5.out.2 h1; cases this)
          go_wp2_with fail
          refine bodyPost_ret (v := .tuple #[.slice none 0 0, .bool false]) (by simp [results, Tryd.results99, go_sem]) rfl ?_
          exact OutB.nil (.inr ⟨rfl, HN.out, rfl⟩) bw5
        | true =>
          have HN := Lib.hid (show PutG l ⟨s, x, y⟩ from ⟨HG.out, by rw [← HY.out]; exact HB5.out.1 (by first | rfl | trivial)⟩)
          go_wp2_with fail
          refine bodyPost_ret (v := .tuple #[.slice A4 ys.length c4, .bool true]) (by simp [results, Tryd.results99, go_sem]) rfl ?_
          exact ⟨A4, c4, ys, true, rfl, .inl ⟨rfl, HN.out, HY.out⟩, ho6, bw5⟩
end Go.Proofs.YtlhhplhciiobfaaDoor
