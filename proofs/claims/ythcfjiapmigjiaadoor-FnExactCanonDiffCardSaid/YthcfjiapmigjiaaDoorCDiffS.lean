/- The canonical log from one tree to another one, by the reference. -/
import Derived.Test.YthcfjiapmigjiaaDoorDifL
import Derived.Test.YthcfjiapmigjiaaDoorChgI
import Derived.Test.YthcfjiapmigjiaaDoorCanS
import Derived.Test.YthcfjiapmigjiaaDoorCDiffI
import Derived.Deep.RegionHeldLaw
namespace Go.Proofs.YthcfjiapmigjiaaDoor
open Go.RowKit
set_option linter.unusedVariables false
set_option linter.unusedSimpArgs false
set_option maxRecDepth 20000

theorem OutB.lit3 {α : Type} {enc : α → List Value} {k : Nat} {e : TypeId} {w W : World} {g : Nat} {R : List α → Bool → Prop} {b : Bool} (hR : R [] b) (ho : W.ownsRow w.heap.size e k (.slice (some ⟨g, 0, none⟩) 0 0) 0 []) (hb : Below w.heap.size w W) : OutB enc k e R w (.returned (.tuple #[.slice (some ⟨g, 0, none⟩) 0 0, .bool b])) W :=
  ⟨_, _, [], b, rfl, hR, ho, hb⟩
theorem cell_row {W W' : World} {row : Option Nat} {p : Addr} {u : Value} (hg : W.grownBy W' row) (hne : some p.block ≠ row) (h : W.cell? p = some u) : W'.cell? p = some u := by
  have hlt : p.block < W.heap.size := by
    rcases Nat.lt_or_ge p.block W.heap.size with h' | h'
    · exact h'
    · simp [World.cell?, Array.getElem?_eq_none h'] at h
  rw [← h]
  simp only [World.cell?]
  rw [hg.block p.block hlt hne]

set_option maxHeartbeats 4000000 in
theorem specCanonDiff_any (A : Option Addr) (n c : Nat) (l : List Nod) (B : Option Addr) (m d : Nat) (ks : List Nod) (w : World) (hn : n ≤ 1048576) (hm' : m ≤ 1048576) (hl : l.length = n) (hk : ks.length = m) (ha : At encN 3 w A l) (hb : At encN 3 w B ks) (hz : ∀ q ∈ l, q.p.size ≤ 1048576) (hzk : ∀ q ∈ ks, q.p.size ≤ 1048576) :
    Calls Tryd.prog 7 #[.slice A n c, .slice B m d] w (OutB encK 5 52 (DifR l ks) w) := by
  obtain ⟨k0, hki, hkz0, hkz1, hkz2⟩ := info_parts infoK
  obtain ⟨i0, hi0, hj0, hj1, hj2⟩ := info_parts infoStr
  have HL := Lib.hid hl
  have HK := Lib.hid hk
  clear hl hk
  have bw0 := below_alloc (Below.refl w.heap.size w) (.cells #[] 52)
  have ho0 := World.ownsRow_lit (base := w.heap.size) (e := 52) (size := 5) w #[] 0 (Nat.le_refl _) (by decide) rfl
  go_enter Tryd.func7, Tryd.ntmps7
  go_wp2_with fail
  refine (specTree_any A n c l _ (by omega) HL.out (ha.belowS bw0) hz).mono ?_
  rintro e w1 ⟨b1, rfl, hb1', hb1⟩
  have bw1 := below_step bw0 hb1
  have HB1 := Lib.hid hb1'
  have ho1 := own_belowS ho0 hb1
  clear hb1' ho0
  cases b1 with
  | false =>
    have HN := Lib.hid (show DifR l ks [] false from .inr ⟨fun h => (by have := HB1.out.2 h.1; cases this), rfl, rfl⟩)
    go_wp2_with fail
    refine bodyPost_ret (v := .tuple #[.slice (some ⟨w.heap.size, 0, none⟩) 0 0, .bool false]) (by simp [results, Tryd.results7, go_sem]) rfl ?_
    exact OutB.lit3 HN.out ho1 bw1
  | true =>
    go_wp2_with fail
    refine (specTree_any B m d ks _ (by omega) HK.out (hb.belowS bw1) hzk).mono ?_
    rintro e w2 ⟨b2, rfl, hb2', hb2⟩
    have bw2 := below_step bw1 hb2
    have HB2 := Lib.hid hb2'
    have ho2 := own_belowS ho1 hb2
    clear hb2' ho1
    cases b2 with
    | false =>
      have HN := Lib.hid (show DifR l ks [] false from .inr ⟨fun h => (by have := HB2.out.2 h.2; cases this), rfl, rfl⟩)
      go_wp2_with fail
      refine bodyPost_ret (v := .tuple #[.slice (some ⟨w.heap.size, 0, none⟩) 0 0, .bool false]) (by simp [results, Tryd.results7, go_sem]) rfl ?_
      exact OutB.lit3 HN.out ho2 bw2
    | true =>
      have HG := Lib.hid (show TreeP l ∧ TreeP ks from ⟨HB1.out.1 (by first | rfl | trivial), HB2.out.1 (by first | rfl | trivial)⟩)
      clear HB1 HB2
      go_wp2_with fail
      refine (specChanged_any A n c l B m d ks _ hn hm' HL.out HK.out (ha.belowS bw2) (hb.belowS bw2) hz hzk).mono ?_
      rintro e w3 ⟨A3, c3, ps, rfl, hps, hop, hb3⟩
      have bw3 := below_step bw2 hb3
      have ho3 := own_belowS ho2 hb3
      have HPS := Lib.hid (show ps = chgL l ks from by rcases hps with h | h; exact h.2; exact absurd HG.out h.1)
      have hp20 := hps.len
      obtain ⟨N, hN⟩ : ∃ N, ps.length = N := ⟨_, rfl⟩
      have HNN := Lib.hid hN
      have HNE0 := Lib.hid (show 0 < N → some (blk A3) ≠ some w.heap.size from fun h he => by
        injection he with he
        have h1 := (own_blk hop (by rw [hN]; exact h)).1
        have s1 := hb1.size
        have s2 := hb2.size
        rw [World.size_alloc] at s1
        omega)
      have hat := own_at encS_len hop rfl
      have hs3 := bw3.size
      rw [hN] at hp20 ⊢
      clear hps hop hN ho2
      go_wp2_with fail
      go_loopw [6, 8] (fun v i wr => ∃ (k : Nat) (ys : List Cmd), i = .int .i64 k ∧ k ≤ N ∧ ys.length ≤ k ∧ Hid (ys = (ps.take k).map (difK l ks)) ∧ wr.ownsRow w.heap.size 52 5 v ys.length (ys.flatMap encK) ∧ At encS 1 wr A3 ps ∧ Hid (0 < N → some (blk A3) ≠ v.ownBlock) ∧ Below w.heap.size w wr) (fun _ i _ => N - (intOf i).toNat)
      case atStart => exact ⟨0, [], rfl, Nat.zero_le _, Nat.le_refl _, Lib.hid (by simp), ho3, hat, Lib.hid HNE0.out, bw3⟩
      case round =>
        clear ho3 hat bw3
        obtain ⟨k, ys, rfl, hk, hys, HY, ho, hat, HNE, hbw⟩ := hrel
        by_cases hlt : k < N
        · have hlk : k < ps.length := by rw [HNN.out]; exact hlt
          have hidx := fun W => run_index_one (c := c3) Tryd.underlying47 hi0 hj1 (hat.addr (by omega)) hlt W
          obtain ⟨p, hp⟩ : ∃ p, ps[k] = p := ⟨_, rfl⟩
          have HP := Lib.hid (show ps[k]? = some p by rw [List.getElem?_eq_getElem hlk, hp])
          have c0 : wr.drew.cell? ⟨blk A3, off A3 + k, none⟩ = some (.string p) := hat.cell1 hlk (u := .string p) (by rw [hp]; rfl)
          obtain ⟨⟨x, y⟩, hga⟩ : ∃ g, getN l p.data.toList = g := ⟨_, rfl⟩
          obtain ⟨⟨z, u⟩, hgb⟩ : ∃ g, getN ks p.data.toList = g := ⟨_, rfl⟩
          have HN := Lib.hid (show ys ++ [⟨p, x, y, z, u⟩] = (ps.take (k + 1)).map (difK l ks) by rw [dif_snoc HP.out, difK_of hga hgb, HY.out])
          have GA : ∀ W : World, Below w.heap.size w W → Calls Tryd.prog 24 #[.slice A n c, .string p] W fun e w' => e = .returned (.agg #[.int .i64 x, .int .i64 y]) ∧ Below W.heap.size W w' := fun W h => by
            refine (specGet_any A n c l p W (by omega) HL.out (ha.belowS h)).mono ?_
            rintro e w' ⟨x', y', rfl, hget, hb'⟩
            obtain ⟨h1, h2⟩ := Prod.mk.inj (hga.symm.trans hget)
            rw [← h1, ← h2]
            exact ⟨rfl, hb'⟩
          have GB : ∀ W : World, Below w.heap.size w W → Calls Tryd.prog 24 #[.slice B m d, .string p] W fun e w' => e = .returned (.agg #[.int .i64 z, .int .i64 u]) ∧ Below W.heap.size W w' := fun W h => by
            refine (specGet_any B m d ks p W (by omega) HK.out (hb.belowS h)).mono ?_
            rintro e w' ⟨x', y', rfl, hget, hb'⟩
            obtain ⟨h1, h2⟩ := Prod.mk.inj (hgb.symm.trans hget)
            rw [← h1, ← h2]
            exact ⟨rfl, hb'⟩
          clear hp hga hgb
          have bwd : Below w.heap.size w wr.drew := hbw.drew
          have hod := own_belowS ho (Below.refl wr.heap.size wr).drew
          have hatd : At encS 1 wr.drew A3 ps := hat.belowS (Below.refl wr.heap.size wr).drew
          have hneA : some (blk A3) ≠ u6.ownBlock := HNE.out (by omega)
          have hml : ys.length + 1 ≤ maxLen := by unfold maxLen; omega
          have hbl : (ys.length + 1) * 48 ≤ 140737488355328 := by omega
          go_upto_region 8 with fail
          clear ho hat hbw
          go_region_held3 (fun w' => w'.cell? ⟨blk A3, off A3 + k, none⟩ = some (.string p) ∧ Below w.heap.size w w')
            (refine ⟨?_, ?_⟩ <;> repeat (first | assumption | exact bwd | refine cell_later (by assumption) ?_ | refine Go.Lib.cell?_alloc_some _ ?_ | refine cell_row hg7 hneA ?_ | refine below_app ?_ hg7 (own_ge hod) | refine below_alloc ?_ _ | refine below_step2 (by assumption) ?_))
            (first
              | (go_at_call_of 24 (Value.slice A n c); refine (GA _ (by first | exact bwd | exact below_step bwd hbB)).mono ?_; rintro e wA ⟨rfl, hbA⟩)
              | (go_at_call_of 24 (Value.slice B m d); refine (GB _ (by first | exact bwd | exact below_step bwd hbA)).mono ?_; rintro e wB ⟨rfl, hbB⟩)
              | (refine step_append_at _ (by exact rfl) (.tmp 28) (.tmp 46) 24 (by exact rfl) w.heap.size 52 k0 (.agg #[.string ByteArray.empty, .int .i64 0, .int .i64 0, .int .i64 0, .int .i64 0]) 5 48 Tryd.underlying24 hki hkz0 hkz1 hkz2 rfl (by decide) u6 ys.length _ (by exact rfl) (by first | exact (own_belowS (own_belowS hod hbA) hbB).alloc _ | exact (own_belowS (own_belowS hod hbB) hbA).alloc _) encK_len encK_one (some ⟨_, 0, none⟩) 1 1 [⟨p, x, y, z, u⟩] (by exact rfl) rfl (at_new (enc := encK) _ encK_len [⟨p, x, y, z, u⟩] 52 #[.string p, .int .i64 x, .int .i64 y, .int .i64 z, .int .i64 u] rfl (by unfold maxLen; simp)) hml hbl (by rw [World.size_alloc]; first | exact Nat.le_succ_of_le (below_step (below_step bwd hbA) hbB).size | exact Nat.le_succ_of_le (below_step (below_step bwd hbB) hbA).size) ?_; intro v7 w7 ho7 hg7 hv7))
          all_goals
            have hH : w7.cell? ⟨blk A3, off A3 + k, none⟩ = some (.string p) ∧ Below w.heap.size w w7 := by assumption
            have bw7 := hH.2
            have hat7 : At encS 1 w7 A3 ps := by
              first
              | exact (((hatd.belowS hbA).belowS hbB).belowS (below_alloc (Below.refl _ _) _)).grown hg7 (fun _ => hneA)
              | exact (((hatd.belowS hbB).belowS hbA).belowS (below_alloc (Below.refl _ _) _)).grown hg7 (fun _ => hneA)
            have hlt3 : blk A3 < wr.drew.heap.size := hatd.lt (by rw [HNN.out]; omega)
            have HNE7 := Lib.hid (show 0 < N → some (blk A3) ≠ v7.ownBlock from fun _ => by
              rcases hv7 with hv | hv
              · rw [hv]; exact hneA
              · rw [hv]
                intro he
                injection he with he
                have sA := hbA.size
                have sB := hbB.size
                rw [World.size_alloc] at he
                omega)
            clear hH hv7 hg7 hlt3
            go_wp2_with fail
            go_roundw
            case rel => exact ⟨k + 1, ys ++ [⟨p, x, y, z, u⟩], by go_num, by omega, by simp; omega, HN, by rw [List.length_append, List.flatMap_append]; exact ho7, hat7, HNE7, bw7⟩
            case measure => simp [intOf]; omega
        · obtain rfl : N = k := by omega
          have HD := Lib.hid (show ys = difL l ks by rw [HY.out, List.take_of_length_le (by rw [HNN.out]; exact Nat.le_refl _), HPS.out]; rfl)
          have hys4 : ys.length ≤ 4194304 := by omega
          obtain ⟨B4, d4, rfl, -, -, -⟩ := own_form ho
          go_wp2_with fail
          refine (specSort14_any B4 ys.length d4 ys _ hys4 rfl (own_at encK_len ho rfl)).mono ?_
          rintro e w5 ⟨B5, d5, zs, rfl, hzs, ho5, hb5⟩
          have bw5 := below_step hbw hb5
          have HZ := Lib.hid hzs
          clear hzs
          go_wp2_with fail
          refine bodyPost_ret (v := .tuple #[.slice B5 zs.length d5, .bool true]) (by simp [results, Tryd.results7, go_sem]) rfl ?_
          exact ⟨B5, d5, zs, true, rfl, .inl ⟨HG.out, by rw [HZ.out, HD.out], rfl⟩, own_mono ho5 hbw.size, bw5⟩
end Go.Proofs.YthcfjiapmigjiaaDoor
