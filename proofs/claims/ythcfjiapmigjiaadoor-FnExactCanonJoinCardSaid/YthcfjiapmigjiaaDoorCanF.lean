/- Canonical logs, by the reference. -/
import Derived.Test.YthcfjiapmigjiaaDoorCanR
import Derived.Test.YthcfjiapmigjiaaDoorCanS
namespace Go.Proofs.YthcfjiapmigjiaaDoor
open Go.RowKit
set_option linter.unusedVariables false
set_option linter.unusedSimpArgs false
set_option maxRecDepth 20000

theorem OutB.lit2 {α : Type} {enc : α → List Value} {k : Nat} {e : TypeId} {w W : World} {R : List α → Bool → Prop} {b : Bool} (hR : R [] b) (hb : Below w.heap.size w W) : OutB enc k e R w (.returned (.tuple #[.slice (some ⟨W.heap.size, 0, none⟩) 0 0, .bool b])) (W.alloc (.cells #[] e)) :=
  ⟨_, _, [], b, rfl, hR, World.ownsRow_lit W #[] 0 hb.size (by decide) (by simp), below_alloc hb _⟩

theorem blk_set34 {w : World} {g : Nat} {t : TypeId} {a b c d e : Value} (h : Blk w g t #[a, b, c, d, e]) (d' e' : Value) : Blk ((w.setCell ⟨g, 3, none⟩ d').setCell ⟨g, 4, none⟩ e') g t #[a, b, c, d', e'] := by
  have := (h.set_ 3 d').set_ 4 e'
  simpa using this
theorem own_set {w : World} {base : Nat} {e : TypeId} {k n g : Nat} {v : Value} {cs : List Value} (h : w.ownsRow base e k v n cs) (hne : some g ≠ v.ownBlock) (i : Nat) (u : Value) : (w.setCell ⟨g, i, none⟩ u).ownsRow base e k v n cs :=
  h.kept (only_setCell (World.grownBy.refl w (some g)) (.inl rfl) u) (.inr (Ne.symm hne))

set_option maxHeartbeats 4000000 in
theorem specLogCanon_any (A : Option Addr) (n c : Nat) (l : List Cmd) (w : World) (hn : n ≤ 2097152) (hl : l.length = n) (ha : At encK 5 w A l) (hz : ∀ q ∈ l, q.p.size ≤ 1048576) :
    Calls Tryd.prog 16 #[.slice A n c] w (OutB encK 5 52 (CanR l) w) := by
  obtain ⟨i0, hi0, hj0, hj1, hj2⟩ := info_parts infoK
  have HL := Lib.hid hl
  obtain ⟨ok, hok⟩ : ∃ ok, okLog l = ok := ⟨_, rfl⟩
  have HOK := Lib.hid hok
  clear hl hok
  go_enter Tryd.func16, Tryd.ntmps16
  go_wp2_with fail
  refine (specLogValid_any A n c l _ (by omega) HL.out ha hz).mono ?_
  rw [HOK.out]
  rintro e w1 ⟨rfl, bw1⟩
  cases ok with
  | false =>
    have HN := Lib.hid (CanR.no (canF_bad HOK.out))
    go_wp2_with fail
    refine bodyPost_ret (v := .tuple #[.slice (some ⟨w1.heap.size, 0, none⟩) 0 0, .bool false]) (by simp [results, Tryd.results16, go_sem]) rfl ?_
    exact OutB.lit2 HN.out bw1
  | true =>
    obtain ⟨T, hT⟩ : ∃ T, outE [] (refL l []) = T := ⟨_, rfl⟩
    have HT := Lib.hid (show outE [] (refL (l.drop 0) (pathsOf (l.take 0))) = T from by simpa [pathsOf] using hT)
    have HF := Lib.hid (show canF l = T.map sortR by rw [canF_ok HOK.out, hT])
    clear hT
    go_wp2_with fail
    go_loopw [4, 5] (fun v i wr => ∃ (k : Nat) (ys : List Cmd), i = .int .i64 k ∧ k ≤ n ∧ ys.length ≤ k ∧ Hid (outE ys (refL (l.drop k) (pathsOf (l.take k))) = T) ∧ wr.ownsRow w.heap.size 52 5 v ys.length (ys.flatMap encK) ∧ Below w.heap.size w wr) (fun _ i _ => n - (intOf i).toNat)
    case atStart => exact ⟨0, [], rfl, Nat.zero_le _, Nat.le_refl _, HT, World.ownsRow_lit (base := w.heap.size) (e := 52) (size := 5) w1 #[] 0 bw1.size (by decide) rfl, below_alloc bw1 _⟩
    case round =>
      clear bw1
      obtain ⟨k, ys, rfl, hk, hys, HY, ho, hbw⟩ := hrel
      by_cases hlt : k < n
      · have hlk : k < l.length := by rw [HL.out]; exact hlt
        have hidx := fun W => run_index_any (c := c) Tryd.underlying24 hi0 hj1 (ha.addr (by omega)) hlt W
        obtain ⟨q, hq⟩ : ∃ q, l[k] = q := ⟨_, rfl⟩
        have HQ := Lib.hid (show l[k]? = some q by rw [List.getElem?_eq_getElem hlk, hq])
        have HQ2 := Lib.hid hq
        clear hq
        go_wp2_with fail
        refine (specFirst_any A n c k l q _ (by omega) HL.out (ha.belowS hbw) hlt HQ.out).mono ?_
        rintro e w2 ⟨b, rfl, hb, hb2⟩
        have bw2 := below_step hbw hb2
        have ho2 := own_belowS ho hb2
        have HB := Lib.hid (hb.trans (noneHas_iff (Nat.le_of_lt hlk)))
        clear hb ho
        cases b with
        | false =>
          have HN := Lib.hid ((ref_seen (ys := ys) HQ.out (Decidable.byContradiction fun h => by have := HB.out.2 h; cases this)).trans HY.out)
          go_wp2_with fail
          go_roundw
          case rel => exact ⟨k + 1, ys, by go_num, by omega, by omega, HN, ho2, bw2⟩
          case measure => simp [intOf]; omega
        | true =>
          have HS := Lib.hid (HB.out.1 (by first | rfl | trivial))
          obtain ⟨M, hM⟩ : ∃ M, mrgL (l.drop (k + 1)) q = M := ⟨_, rfl⟩
          have HM := Lib.hid hM
          have HMM := Lib.hid hM
          clear hM
          obtain ⟨c0, c1, c2, c3, c4⟩ := at5 (ha.belowS bw2) hlk HQ2.out
          have P0 := Blk.new w2 52 #[.string q.p, .int .i64 q.x, .int .i64 q.y, .int .i64 q.z, .int .i64 q.u]
          have bw3 := below_alloc bw2 (.cells #[.string q.p, .int .i64 q.x, .int .i64 q.y, .int .i64 q.z, .int .i64 q.u] 52)
          have ho3 := ho2.alloc (.cells #[.string q.p, .int .i64 q.x, .int .i64 q.y, .int .i64 q.z, .int .i64 q.u] 52)
          have hne : some w2.heap.size ≠ u4.ownBlock := fun e => by have := (ho2.lt _ e.symm).2; omega
          have hgw : w.heap.size ≤ w2.heap.size := bw2.size
          obtain ⟨g, hg⟩ : ∃ g, w2.heap.size = g := ⟨_, rfl⟩
          obtain ⟨W0, hW0⟩ : ∃ W0, W0 = w2.alloc (.cells #[.string q.p, .int .i64 q.x, .int .i64 q.y, .int .i64 q.z, .int .i64 q.u] 52) := ⟨_, rfl⟩
          rw [hg, ← hW0] at P0
          rw [← hW0] at bw3 ho3
          rw [hg] at hne hgw
          go_wp2_with fail
          try rw [hg]
          rw [← hW0]
          clear hg hW0 c0 c1 c2 c3 c4 ho2 bw2 hb2 hbw
          go_loopw [7] (fun j wr => ∃ (m : Nat) (z u : Int), j = .int .i64 m ∧ k + 1 ≤ m ∧ m ≤ n ∧ Hid (mrgL (l.drop m) ⟨q.p, q.x, q.y, z, u⟩ = M) ∧ Blk wr g 52 #[.string q.p, .int .i64 q.x, .int .i64 q.y, .int .i64 z, .int .i64 u] ∧ wr.ownsRow w.heap.size 52 5 u4 ys.length (ys.flatMap encK) ∧ Below w.heap.size w wr) (fun j _ => n - (intOf j).toNat)
          case atStart => exact ⟨k + 1, q.z, q.u, by first | rfl | go_num, Nat.le_refl _, hlt, HM, P0, ho3, bw3⟩
          case round =>
            clear P0 ho3 bw3 HM
            obtain ⟨m, z, u, rfl, hkm, hm, HM, PB, ho, hbw⟩ := hrel
            by_cases hlt2 : m < n
            · have hlm : m < l.length := by rw [HL.out]; exact hlt2
              have hidx2 := fun W => run_index_any (c := c) Tryd.underlying24 hi0 hj1 (ha.addr (by omega)) hlt2 W
              obtain ⟨d, hd⟩ : ∃ d, l[m] = d := ⟨_, rfl⟩
              have HD := Lib.hid (show l[m]? = some d by rw [List.getElem?_eq_getElem hlm, hd])
              obtain ⟨c0, c1, c2, c3, c4⟩ := at5 (ha.belowS hbw.drew) hlm hd
              obtain ⟨p0, p1, p2, p3, p4⟩ := blk5 (PB.drewN 1)
              have p0' : wr.drew.cell? ⟨g, 0, none⟩ = _ := p0
              by_cases he : d.p.data.toList = q.p.data.toList
              · have hb : (d.p.toList == q.p.toList) = true := by rw [toList_is he, toList_is rfl]; simp
                have HE := Lib.hid (show d.s = (⟨q.p, q.x, q.y, z, u⟩ : Cmd).s from he)
                clear he
                obtain ⟨d0, d1, d2, d3, d4⟩ := at5 (ha.belowS hbw.drew.drew) hlm hd
                obtain ⟨e0, e1, e2, e3, e4⟩ := blk5 (show Blk wr.drew.drew g 52 #[.string q.p, .int .i64 q.x, .int .i64 q.y, .int .i64 z, .int .i64 u] from PB)
                clear hd
                by_cases hx : d.x = z
                · by_cases hu : d.y = u
                  · have HN := Lib.hid (mrg_next HD.out HM.out (mrg1_hit HE.out ⟨hx, hu⟩))
                    obtain ⟨f0, f1, f2, f3, f4⟩ := blk5f PB
                    obtain ⟨b0, b1, b2, b3, b4⟩ := blk5 PB
                    have hoS := own_set (own_set ho.drew.drew hne 3 (.int .i64 d.z)) hne 4 (.int .i64 d.u)
                    have hbS := below_set (below_set hbw.drew.drew (p := ⟨g, 3, none⟩) hgw (.int .i64 d.z)) (p := ⟨g, 4, none⟩) hgw (.int .i64 d.u)
                    have PBS := blk_set34 (show Blk wr.drew.drew g 52 #[.string q.p, .int .i64 q.x, .int .i64 q.y, .int .i64 z, .int .i64 u] from PB) (.int .i64 d.z) (.int .i64 d.u)
                    subst hx
                    subst hu
                    go_wp2_with fail
                    go_region
                    go_wp2_with fail
                    go_region
                    go_wp2_with fail
                    go_roundw
                    case rel => exact ⟨m + 1, d.z, d.u, by go_num, by omega, by omega, HN, PBS, hoS, hbS⟩
                    case measure => simp [intOf]; omega
                  · have HM0 := mrg_bad HD.out HM.out (mrg1_miss HE.out (fun h => hu h.2))
                    have HN := Lib.hid (show canF l = none by rw [HF.out, ← HY.out, ref_fail HQ.out HS.out (HMM.out.trans HM0)]; rfl)
                    clear HM0
                    go_wp2_with fail
                    go_region
                    go_wp2_with fail
                    go_region
                    go_wp2_with fail
                    refine bodyPost_ret (v := .tuple #[.slice (some ⟨wr.drew.drew.heap.size, 0, none⟩) 0 0, .bool false]) (by simp [results, Tryd.results16, go_sem]) rfl ?_
                    exact OutB.lit2 (CanR.no HN.out) hbw.drew.drew
                · have HM0 := mrg_bad HD.out HM.out (mrg1_miss HE.out (fun h => hx h.1))
                  have HN := Lib.hid (show canF l = none by rw [HF.out, ← HY.out, ref_fail HQ.out HS.out (HMM.out.trans HM0)]; rfl)
                  clear HM0
                  go_wp2_with fail
                  go_region
                  go_wp2_with fail
                  go_region
                  go_wp2_with fail
                  refine bodyPost_ret (v := .tuple #[.slice (some ⟨wr.drew.drew.heap.size, 0, none⟩) 0 0, .bool false]) (by simp [results, Tryd.results16, go_sem]) rfl ?_
                  exact OutB.lit2 (CanR.no HN.out) hbw.drew.drew
              · have hb : (d.p.toList == q.p.toList) = false := by rw [toList_is rfl, toList_is (s := q.p) rfl]; simpa using he
                have HN := Lib.hid (mrg_next HD.out HM.out (mrg1_far (c := ⟨q.p, q.x, q.y, z, u⟩) he))
                clear he hd
                go_wp2_with fail
                go_region
                go_wp2_with fail
                go_roundw
                case rel => exact ⟨m + 1, z, u, by go_num, by omega, by omega, HN, PB.drewN 1, ho.drew, hbw.drew⟩
                case measure => simp [intOf]; omega
            · obtain rfl : n = m := by omega
              have HD := Lib.hid (mrg_over (by rw [HL.out]; exact Nat.le_refl _) HM.out)
              obtain ⟨p0, p1, p2, p3, p4⟩ := blk5 PB
              have hsz := hbw.size
              have hnN := at_new (enc := encK) wr encK_len [⟨q.p, q.x, q.y, z, u⟩] 52 #[.string q.p, .int .i64 q.x, .int .i64 q.y, .int .i64 z, .int .i64 u] rfl (by unfold maxLen; simp)
              have hoN := ho.alloc (.cells #[.string q.p, .int .i64 q.x, .int .i64 q.y, .int .i64 z, .int .i64 u] 52)
              by_cases hx : q.x = z
              · by_cases hu : q.y = u
                · have HN := Lib.hid ((ref_new (ys := ys) (zs := ys) HQ.out HS.out (HMM.out.trans HD.out) (by rw [if_neg]; unfold chg; dsimp only; rw [hx, hu]; simp)).trans HY.out)
                  subst hx
                  subst hu
                  go_wp2_with fail
                  go_roundw
                  case rel => exact ⟨k + 1, ys, by go_num, by omega, by omega, HN, ho, hbw⟩
                  case measure => simp [intOf]; omega
                · have HN := Lib.hid ((ref_new (ys := ys) (zs := ys ++ [⟨q.p, q.x, q.y, z, u⟩]) HQ.out HS.out (HMM.out.trans HD.out) (by rw [if_pos]; unfold chg; dsimp only; simp [hu])).trans HY.out)
                  subst hx
                  go_wp2_with (at_builtin; refine wpList_append_at _ rfl _ _ 24 rfl w.heap.size 52 i0 (.agg #[.string ByteArray.empty, .int .i64 0, .int .i64 0, .int .i64 0, .int .i64 0]) 5 48 Tryd.underlying24 hi0 hj0 hj1 hj2 rfl (by decide) _ ys.length _ rfl hoN encK_len encK_one _ 1 1 [⟨q.p, q.x, q.y, q.x, u⟩] rfl rfl hnN (by unfold maxLen; omega) (by omega) (by simp; omega) ?_; intro v3 w3 ho3 hg3 hv3)
                  go_roundw
                  case rel => exact ⟨k + 1, ys ++ [⟨q.p, q.x, q.y, q.x, u⟩], by go_num, by omega, by simp; omega, HN, by rw [List.length_append, List.flatMap_append]; exact ho3, below_app (w := w) (below_alloc hbw _) hg3 (own_ge ho)⟩
                  case measure => simp [intOf]; omega
              · have HN := Lib.hid ((ref_new (ys := ys) (zs := ys ++ [⟨q.p, q.x, q.y, z, u⟩]) HQ.out HS.out (HMM.out.trans HD.out) (by rw [if_pos]; unfold chg; dsimp only; simp [hx])).trans HY.out)
                go_wp2_with (at_builtin; refine wpList_append_at _ rfl _ _ 24 rfl w.heap.size 52 i0 (.agg #[.string ByteArray.empty, .int .i64 0, .int .i64 0, .int .i64 0, .int .i64 0]) 5 48 Tryd.underlying24 hi0 hj0 hj1 hj2 rfl (by decide) _ ys.length _ rfl hoN encK_len encK_one _ 1 1 [⟨q.p, q.x, q.y, z, u⟩] rfl rfl hnN (by unfold maxLen; omega) (by omega) (by simp; omega) ?_; intro v3 w3 ho3 hg3 hv3)
                go_roundw
                case rel => exact ⟨k + 1, ys ++ [⟨q.p, q.x, q.y, z, u⟩], by go_num, by omega, by simp; omega, HN, by rw [List.length_append, List.flatMap_append]; exact ho3, below_app (w := w) (below_alloc hbw _) hg3 (own_ge ho)⟩
                case measure => simp [intOf]; omega
      · obtain rfl : n = k := by omega
        have hys2 : ys.length ≤ 4194304 := by omega
        have HN := Lib.hid (show T = some ys by rw [← HY.out, ref_end (by rw [HL.out]; exact Nat.le_refl _)])
        obtain ⟨B, d, rfl, -, -, -⟩ := own_form ho
        have atY := own_at encK_len ho rfl
        go_wp2_with fail
        refine (specSort14_any B ys.length d ys _ hys2 rfl atY).mono ?_
        rintro e w2 ⟨B2, d2, ys2, rfl, hy2, ho2, hb2⟩
        have HY2 := Lib.hid hy2
        clear hy2
        go_wp2_with fail
        refine bodyPost_ret (v := .tuple #[.slice B2 ys2.length d2, .bool true]) (by simp [results, Tryd.results16, go_sem]) rfl ?_
        exact ⟨B2, d2, ys2, true, rfl, CanR.yes (by rw [HF.out, HN.out, HY2.out]; rfl), own_mono ho2 hbw.size, below_step hbw hb2⟩
end Go.Proofs.YthcfjiapmigjiaaDoor
