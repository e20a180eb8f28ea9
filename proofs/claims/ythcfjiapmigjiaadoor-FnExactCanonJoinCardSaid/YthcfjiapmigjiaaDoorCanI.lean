/- Canonical logs, by the program. -/
import Derived.Test.YthcfjiapmigjiaaDoorCanR
import Derived.Test.YthcfjiapmigjiaaDoorCanX
import Derived.Test.YthcfjiapmigjiaaDoorCanK
namespace Go.Proofs.YthcfjiapmigjiaaDoor
open Go.RowKit
set_option linter.unusedVariables false
set_option linter.unusedSimpArgs false
set_option maxRecDepth 20000

set_option maxHeartbeats 1000000 in
theorem cloneLogC_any (A : Option Addr) (n c : Nat) (l : List Cmd) (w : World) (hn : n ≤ 2097152) (hl : l.length = n) (ha : At encK 5 w A l) :
    Calls Tryd.prog 44 #[.slice A n c] w fun e w' => (∃ v, e = .returned v ∧ w'.ownsRow w.heap.size 52 5 v n (l.flatMap encK)) ∧ Below w.heap.size w w' := by
  obtain ⟨i0, hi, hz0, hz1, hz2⟩ := info_parts infoK
  have ho0 := World.ownsRow_nil w w.heap.size 52 5
  go_enter Tryd.func44, Tryd.ntmps44
  go_wp2_with (at_builtin; refine wpList_append_at _ rfl _ _ 24 rfl w.heap.size 52 i0 (.agg #[.string ByteArray.empty, .int .i64 0, .int .i64 0, .int .i64 0, .int .i64 0]) 5 48 Tryd.underlying24 hi hz0 hz1 hz2 rfl (by decide) (.slice none 0 0) 0 [] rfl ho0 encK_len encK_one A n c l rfl hl ha (by unfold maxLen; omega) (by omega) (by omega) ?_; intro v3 w3 ho3 hg3 hv3)
  go_ret
  refine ⟨⟨v3, rfl, ?_⟩, below_app (Below.refl _ _) hg3 (own_ge ho0)⟩
  simpa using ho3

theorem foldC_next {l ys zs : List Cmd} {k : Nat} {q : Cmd} {F : Option (List Cmd)} (hk : l[k]? = some q) (h : foldP (l.drop k) ys = F) (hs : stepP ys q = some zs) : foldP (l.drop (k + 1)) zs = F := by
  rw [dropC hk, foldP, hs] at h; exact h
theorem foldC_bad {l ys : List Cmd} {k : Nat} {q : Cmd} {F : Option (List Cmd)} (hk : l[k]? = some q) (h : foldP (l.drop k) ys = F) (hs : stepP ys q = none) : F = none := by
  rw [dropC hk, foldP, hs] at h; exact h.symm
theorem foldC_end {l ys : List Cmd} {k : Nat} {F : Option (List Cmd)} (hk : l.length ≤ k) (h : foldP (l.drop k) ys = F) : F = some ys := by
  rw [List.drop_of_length_le hk, foldP] at h; exact h.symm
theorem step_new {ys : List Cmd} {q : Cmd} (h : ys.findIdx? (fun d => decide (d.s = q.s)) = none) : stepP ys q = some (ys ++ [q]) := by unfold stepP; rw [h]
theorem step_hit {ys : List Cmd} {q o : Cmd} {j : Nat} (h : ys.findIdx? (fun d => decide (d.s = q.s)) = some j) (ho : ys[j]? = some o) (hz : q.x = o.z ∧ q.y = o.u) : stepP ys q = some (ys.set j ⟨o.p, o.x, o.y, q.z, q.u⟩) := by
  unfold stepP; rw [h]; dsimp only; rw [ho]; dsimp only; rw [if_pos hz]
theorem step_miss {ys : List Cmd} {q o : Cmd} {j : Nat} (h : ys.findIdx? (fun d => decide (d.s = q.s)) = some j) (ho : ys[j]? = some o) (hz : ¬ (q.x = o.z ∧ q.y = o.u)) : stepP ys q = none := by
  unfold stepP; rw [h]; dsimp only; rw [ho]; dsimp only; rw [if_neg hz]
theorem canF_fold {l : List Cmd} (h : okLog l = true) : canF l = (foldP l []).map fun r => sortR (r.filter chg) := by
  rw [canF_ok h, fold_ref]
  unfold outE
  cases refL l [] <;> rfl
theorem flat_set2 {R : List Cmd} {i : Nat} {o : Cmd} (ho : R[i]? = some o) (a b : Int) :
    ((R.flatMap encK).set (i * 5 + 3) (.int .i64 a)).set (i * 5 + 4) (.int .i64 b) = (R.set i ⟨o.p, o.x, o.y, a, b⟩).flatMap encK := by
  obtain ⟨hi, rfl⟩ := List.getElem?_eq_some_iff.1 ho
  rw [← flat_set hi]
  have hu : ((R.take i).flatMap encK).length = i * 5 := by rw [flat_len encK_len, List.length_take]; omega
  have e1 : R.flatMap encK = (R.take i).flatMap encK ++ .string R[i].p :: .int .i64 R[i].x :: .int .i64 R[i].y :: .int .i64 R[i].z :: .int .i64 R[i].u :: (R.drop (i + 1)).flatMap encK := by
    conv => lhs; rw [← List.take_append_drop i R, List.drop_eq_getElem_cons hi, List.flatMap_append, List.flatMap_cons]
    rfl
  rw [e1, set5 _ _ _ hu, List.set_append_right _ _ (by omega), List.set_append_right _ _ (by omega), hu, Nat.add_sub_cancel_left, Nat.add_sub_cancel_left]
  rfl

set_option maxHeartbeats 4000000 in
theorem implLogCanon_any (A : Option Addr) (n c : Nat) (l : List Cmd) (w : World) (hn : n ≤ 2097152) (hl : l.length = n) (ha : At encK 5 w A l) (hz : ∀ q ∈ l, q.p.size ≤ 1048576) (hm : MaxAt w) :
    Calls Tryd.prog 18 #[.slice A n c] w (OutB encK 5 52 (CanR l) w) := by
  obtain ⟨i0, hi0, hj0, hj1, hj2⟩ := info_parts infoK
  have HL := Lib.hid hl
  have HMX := Lib.hid hm
  obtain ⟨ok, hok⟩ : ∃ ok, okLog l = ok := ⟨_, rfl⟩
  have HOK := Lib.hid hok
  clear hl hok hm
  go_enter Tryd.func18, Tryd.ntmps18
  go_wp2_with fail
  refine (implLogValid_any A n c l _ (by omega) HL.out ha hz HMX.out).mono ?_
  rw [HOK.out]
  rintro e w1 ⟨rfl, bw1⟩
  cases ok with
  | false =>
    have HN := Lib.hid (CanR.no (canF_bad HOK.out))
    go_wp2_with fail
    refine bodyPost_ret (v := .tuple #[.slice none 0 0, .bool false]) (by simp [results, Tryd.results18, go_sem]) rfl ?_
    exact OutB.nil HN.out bw1
  | true =>
    obtain ⟨F, hF⟩ : ∃ F, foldP l [] = F := ⟨_, rfl⟩
    have HF0 := Lib.hid (show foldP (l.drop 0) [] = F from hF)
    have HF := Lib.hid (show canF l = F.map fun r => sortR (r.filter chg) by rw [canF_fold HOK.out, hF])
    have HFN := Lib.hid (show ∀ r, F = some r → ((r.filter chg).map Cmd.s).Nodup from fun r hr => filter_nodup (foldP_nodup l (hF.trans hr) (by simp [pathsOf])).1 _)
    clear hF
    go_wp2_with fail
    go_loopw [4, 13] (fun v i wr => ∃ (k : Nat) (ys : List Cmd), i = .int .i64 k ∧ k ≤ n ∧ ys.length ≤ k ∧ Hid (foldP (l.drop k) ys = F) ∧ wr.ownsRow w.heap.size 52 5 v ys.length (ys.flatMap encK) ∧ Below w.heap.size w wr) (fun _ i _ => n - (intOf i).toNat)
    case atStart => exact ⟨0, [], rfl, Nat.zero_le _, Nat.le_refl _, HF0, World.ownsRow_nil _ _ _ _, bw1⟩
    case round =>
      clear bw1
      obtain ⟨k, ys, rfl, hk, hys, HY, ho, hbw⟩ := hrel
      by_cases hlt : k < n
      · have hlk : k < l.length := by rw [HL.out]; exact hlt
        have hidx := fun W => run_index_any (c := c) Tryd.underlying24 hi0 hj1 (ha.addr (by omega)) hlt W
        obtain ⟨q, hq⟩ : ∃ q, l[k] = q := ⟨_, rfl⟩
        have HQ := Lib.hid (show l[k]? = some q by rw [List.getElem?_eq_getElem hlk, hq])
        obtain ⟨c0, c1, c2, c3, c4⟩ := at5 (ha.belowS hbw) hlk hq
        clear hq
        have P0 := Blk.new wr 52 #[.string q.p, .int .i64 q.x, .int .i64 q.y, .int .i64 q.z, .int .i64 q.u]
        have bw0 := below_alloc hbw (.cells #[.string q.p, .int .i64 q.x, .int .i64 q.y, .int .i64 q.z, .int .i64 q.u] 52)
        have hoP := ho.alloc (.cells #[.string q.p, .int .i64 q.x, .int .i64 q.y, .int .i64 q.z, .int .i64 q.u] 52)
        have hgw : w.heap.size ≤ wr.heap.size := hbw.size
        obtain ⟨g, hg⟩ : ∃ g, wr.heap.size = g := ⟨_, rfl⟩
        obtain ⟨W0, hW0⟩ : ∃ W0, W0 = wr.alloc (.cells #[.string q.p, .int .i64 q.x, .int .i64 q.y, .int .i64 q.z, .int .i64 q.u] 52) := ⟨_, rfl⟩
        rw [hg, ← hW0] at P0
        rw [← hW0] at bw0 hoP
        rw [hg] at hgw
        obtain ⟨B, d, rfl, hyd, hdm, hBA⟩ := own_form ho
        have hBg : 0 < ys.length → blk B ≠ g := fun h => by have := (hBA h).2.2; omega
        clear hBA
        go_upto_region 7 with fail
        try rw [hg]
        rw [← hW0]
        clear hg hW0 c0 c1 c2 c3 c4 ho hbw
        have hys4 : ys.length ≤ 4194304 := by omega
        go_wp2_with fail
        refine (indexHas_any B ys.length d ys g q.p q.x q.y q.z q.u W0 hys4 rfl (own_at encK_len hoP rfl) P0).mono ?_
        cases hf : ys.findIdx? (fun d => decide (d.s = q.s)) with
        | none =>
          have HF1 := Lib.hid (step_new hf)
          have HFI := Lib.hid (show idxI (ys.findIdx? fun d => decide (d.s = q.p.data.toList)) = -1 by rw [show (fun d : Cmd => decide (d.s = q.p.data.toList)) = fun d => decide (d.s = q.s) from rfl, hf]; rfl)
          clear hf
          rw [HFI.out]
          rintro e w2 ⟨rfl, hb2⟩
          have bw2 := below_step bw0 hb2
          have ho2 := own_belowS hoP hb2
          obtain ⟨p0, p1, p2, p3, p4⟩ := blk5 (P0.belowS hb2)
          have hsz := bw2.size
          have hnN := at_new (enc := encK) w2 encK_len [q] 52 #[.string q.p, .int .i64 q.x, .int .i64 q.y, .int .i64 q.z, .int .i64 q.u] rfl (by unfold maxLen; simp)
          have hoN := ho2.alloc (.cells #[.string q.p, .int .i64 q.x, .int .i64 q.y, .int .i64 q.z, .int .i64 q.u] 52)
          have HN := Lib.hid (foldC_next HQ.out HY.out HF1.out)
          clear P0 bw0 hoP
          go_wp2_with (at_builtin; refine wpList_append_at _ rfl _ _ 24 rfl w.heap.size 52 i0 (.agg #[.string ByteArray.empty, .int .i64 0, .int .i64 0, .int .i64 0, .int .i64 0]) 5 48 Tryd.underlying24 hi0 hj0 hj1 hj2 rfl (by decide) _ ys.length _ rfl hoN encK_len encK_one _ 1 1 [q] rfl rfl hnN (by unfold maxLen; omega) (by omega) (by simp; omega) ?_; intro v3 w3 ho3 hg3 hv3)
          go_roundw
          case rel => exact ⟨k + 1, ys ++ [q], by go_num, by omega, by simp; omega, HN, by rw [List.length_append, List.flatMap_append]; exact ho3, below_app (w := w) (below_alloc bw2 _) hg3 (own_ge ho2)⟩
          case measure => simp [intOf]; omega
        | some j =>
          have HFI := Lib.hid (show idxI (ys.findIdx? fun d => decide (d.s = q.p.data.toList)) = (j : Int) by rw [show (fun d : Cmd => decide (d.s = q.p.data.toList)) = fun d => decide (d.s = q.s) from rfl, hf]; rfl)
          have hj : j < ys.length := (List.findIdx?_eq_some_iff_getElem.1 hf).1
          obtain ⟨o, hoj⟩ : ∃ o, ys[j] = o := ⟨_, rfl⟩
          have HO := Lib.hid (show ys[j]? = some o by rw [List.getElem?_eq_getElem hj, hoj])
          have HOJ := Lib.hid hoj
          have HF1 := Lib.hid hf
          clear hf hoj
          rw [HFI.out]
          rintro e w2 ⟨rfl, hb2⟩
          have bw2 := below_step bw0 hb2
          have ho2 := own_belowS hoP hb2
          have P2 := P0.belowS hb2
          have hne := hBg (by omega)
          obtain ⟨B', d', hv', -, -, hB'⟩ := own_form ho2
          injection hv' with hv1 _ hv3
          subst hv1
          subst hv3
          obtain ⟨hB1, hB2, -⟩ := hB' (by omega)
          obtain ⟨b, hb⟩ : ∃ b, blk B = b := ⟨_, rfl⟩
          rw [hb] at hB1 hB2 hne
          clear hB' hb P0 bw0 hoP hBg
          subst hB1
          have hjn : ¬ ((j : Int) < 0) := by omega
          have hidx2 : ∀ W, (Instr.indexAt 24 (.slice (some ⟨b, 0, none⟩) ys.length d) (.int .i64 (j : Int))).run Tryd.prog W = .ok (.pointer (some ⟨b, j * 5, none⟩)) W := fun W => by
            have := run_index_any (c := d) (A := some ⟨b, 0, none⟩) Tryd.underlying24 hi0 hj1 rfl hj W
            simpa using this
          have cs := at5 (own_at encK_len (own_belowS ho2 (Below.refl _ _).drew) rfl) hj HOJ.out
          simp only [blk_some, off_some, Nat.zero_add] at cs
          obtain ⟨c0, c1, c2, c3, c4⟩ := cs
          obtain ⟨p0, p1, p2, p3, p4⟩ := blk5 (show Blk w2.drew g 52 #[.string q.p, .int .i64 q.x, .int .i64 q.y, .int .i64 q.z, .int .i64 q.u] from P2)
          by_cases hx : q.x = o.z ∧ q.y = o.u
          · have HN := Lib.hid (foldC_next HQ.out HY.out (step_hit HF1.out HO.out hx))
            obtain ⟨hx1, hx2⟩ := hx
            have hoD := own_belowS ho2 (Below.refl _ _).drew
            have s0 := (hoD.stored (j * 5 + 3) (.int .i64 q.z)).1
            have s1 := (s0.stored (j * 5 + 3 + 1) (.int .i64 q.u)).1
            have S1 := Lib.hid s1
            have f3 := ho2.frozenAt (j * 5 + 3)
            have f4 := ho2.frozenAt (j * 5 + 3 + 1)
            have d3 : w2.cell? ⟨b, j * 5 + 3, none⟩ = some (.int .i64 o.z) := c3
            have d4 : w2.cell? ⟨b, j * 5 + 3 + 1, none⟩ = some (.int .i64 o.u) := c4
            have HFL := Lib.hid (flat_set2 HO.out q.z q.u)
            have bw3 := below_set (below_set bw2.drew (p := ⟨b, j * 5 + 3, none⟩) hB2 (.int .i64 q.z)) (p := ⟨b, j * 5 + 3 + 1, none⟩) hB2 (.int .i64 q.u)
            clear s0 s1 hoD
            go_upto_region 11 with fail
            go_region
            go_wp2_with fail
            go_roundw
            case rel => exact ⟨k + 1, ys.set j ⟨o.p, o.x, o.y, q.z, q.u⟩, by go_num, by omega, by rw [List.length_set]; omega, HN, by rw [List.length_set, ← HFL.out]; exact S1.out, bw3⟩
            case measure => simp [intOf]; omega
          · have HF2 := foldC_bad HQ.out HY.out (step_miss HF1.out HO.out hx)
            have HN := Lib.hid (show canF l = none by rw [HF.out, HF2]; rfl)
            clear HF2
            by_cases hx1 : o.z = q.x
            · have hx2 : ¬ o.u = q.y := fun h => hx ⟨hx1.symm, h.symm⟩
              clear hx
              go_upto_region 11 with fail
              go_region
              go_wp2_with fail
              refine bodyPost_ret (v := .tuple #[.slice none 0 0, .bool false]) (by simp [results, Tryd.results18, go_sem]) rfl ?_
              exact OutB.nil (CanR.no HN.out) bw2.drew
            · clear hx
              go_upto_region 11 with fail
              go_region
              go_wp2_with fail
              refine bodyPost_ret (v := .tuple #[.slice none 0 0, .bool false]) (by simp [results, Tryd.results18, go_sem]) rfl ?_
              exact OutB.nil (CanR.no HN.out) bw2.drew
      · obtain rfl : n = k := by omega
        have hys4 : ys.length ≤ 4194304 := by omega
        have HE := Lib.hid (foldC_end (by rw [HL.out]; exact Nat.le_refl _) HY.out)
        obtain ⟨B, d, rfl, -, -, -⟩ := own_form ho
        go_wp2_with fail
        refine (deleteSame_any B ys.length d w.heap.size ys _ hys4 hbw.size rfl ho).mono ?_
        rintro e w2 ⟨m, rfl, hm, hmn, ho2, hb2⟩
        have bw2 := hbw.trans hb2
        have HM := Lib.hid hm
        have HS := Lib.hid (show (sortR (ys.filter chg)).length = m from (sortR_len _).trans hm)
        have hm4 : m ≤ 2097152 := by omega
        have hm5 : m ≤ 4194304 := by omega
        clear hm hmn ho hb2
        go_wp2_with fail
        refine (sortFunc_any B m d w.heap.size (ys.filter chg) _ hm5 bw2.size HM.out ho2 (HFN.out _ HE.out)).mono ?_
        rintro e w3 ⟨rfl, ho3, hb3⟩
        have bw3 := bw2.trans hb3
        clear ho2 hb3
        go_wp2_with fail
        refine (cloneLogC_any B m d (sortR (ys.filter chg)) _ hm4 HS.out (own_at encK_len ho3 HS.out)).mono ?_
        rintro e w4 ⟨⟨v, rfl, ho4⟩, hb4⟩
        have bw4 := below_step bw3 hb4
        obtain ⟨A4, c4, rfl, -, -, -⟩ := own_form ho4
        go_wp2_with fail
        refine bodyPost_ret (v := .tuple #[.slice A4 m c4, .bool true]) (by simp [results, Tryd.results18, go_sem]) rfl ?_
        exact ⟨A4, c4, sortR (ys.filter chg), true, by rw [HS.out], CanR.yes (by rw [HF.out, HE.out]; rfl), by rw [HS.out]; exact own_mono ho4 bw3.size, bw4⟩
end Go.Proofs.YthcfjiapmigjiaaDoor
