/- slices.Insert at nodes, one node; the copies of trees; put by the program. -/
import Derived.Test.YtlhhplhciiobfaaDoorDel
import Derived.Test.YtlhhplhciiobfaaDoorOut
import Derived.Test.YtlhhplhciiobfaaDoorQ
namespace Go.Proofs.YtlhhplhciiobfaaDoor
open Go.RowKit
set_option linter.unusedVariables false
set_option linter.unusedSimpArgs false
set_option maxRecDepth 20000

theorem sizeN (w : World) : (Go.sizeOf 73).run Tryd.prog w = .ok 3 w := by kernel_rfl
theorem ins_room {T D N ys : List Value} {i m : Nat} (hT : T.length = i * 3) (hN : N.length = 3) (hD : D.length = m * 3) (hy : ys.length = 3) : setR (setR (T ++ D ++ ys) ((i + 1) * 3) D) (i * 3) N = T ++ N ++ D := by
  have e : T ++ D ++ ys = (T ++ (D ++ ys).take 3) ++ (D ++ ys).drop 3 ++ [] := by rw [List.append_nil, List.append_assoc, List.append_assoc, List.take_append_drop]
  have h3 : ((D ++ ys).take 3).length = 3 := by rw [List.length_take, List.length_append]; omega
  rw [e, setR_mid D _ _ _ _ (by rw [List.length_drop, List.length_append]; omega) (by rw [List.length_append, hT, h3]; omega)]
  rw [List.append_nil, setR_mid N _ T D (i * 3) (by rw [h3, hN]) hT.symm]
theorem ins_grow {T D N zs : List Value} {i m : Nat} (hT : T.length = i * 3) (hN : N.length = 3) (hD : D.length = m * 3) (hz : zs.length = (m + 1) * 3) : setR (setR (T ++ zs) (i * 3) N) ((i + 1) * 3) D = T ++ N ++ D := by
  have e : T ++ zs = T ++ zs.take 3 ++ zs.drop 3 := by rw [List.append_assoc, List.take_append_drop]
  have h3 : (zs.take 3).length = 3 := by rw [List.length_take]; omega
  rw [e, setR_mid N _ T _ (i * 3) (by rw [h3, hN]) hT.symm]
  have e2 : T ++ N ++ zs.drop 3 = (T ++ N) ++ zs.drop 3 ++ [] := by simp
  rw [e2, setR_mid D _ _ _ _ (by rw [List.length_drop]; omega) (by rw [List.length_append, hT, hN]; omega), List.append_nil]
set_option maxHeartbeats 2000000 in
theorem insN_any (A : Option Addr) (n c i vb : Nat) (l : List Nod) (s : ByteArray) (x y : Int) (w : World) (base : Nat) (hn : n ≤ 1100000) (hin : i ≤ n) (hl : l.length = n) (ho : w.ownsRow base 73 3 (.slice A n c) n (l.flatMap encN)) (hvb : ∀ g, (Value.slice A n c).ownBlock = some g → g ≠ vb) (hb : base ≤ w.heap.size) (P : Blk w vb 73 #[.string s, .int .i64 x, .int .i64 y]) :
    Calls Tryd.prog 145 #[.slice A n c, .int .i64 i, .slice (some ⟨vb, 0, none⟩) 1 1] w fun e w' => ∃ v', e = .returned v' ∧ w'.ownsRow base 73 3 v' (n + 1) ((l.take i ++ ⟨s, x, y⟩ :: l.drop i).flatMap encN) ∧ w.grownBy w' (Value.slice A n c).ownBlock := by
  obtain ⟨i0, hi, hz0, hz1, hz2⟩ := info_parts infoN
  have HL := Lib.hid hl
  have hvA : At encN 3 w (some ⟨vb, 0, none⟩) [⟨s, x, y⟩] := ⟨fun _ => rfl, fun _ => P.lt, fun j hj r u hu => by
    have hj0 : j = 0 := by simpa using hj
    subst hj0
    obtain ⟨p0, p1, p2⟩ := blk3 P
    simp only [blk_some, off_some, Nat.zero_mul, Nat.zero_add]
    have hr : r < 3 := (List.getElem?_eq_some_iff.1 hu).1
    match r, hr with
    | 0, _ => injection hu with hu; subst hu; exact p0
    | 1, _ => injection hu with hu; subst hu; exact p1
    | 2, _ => injection hu with hu; subst hu; exact p2
    | r + 3, h => omega⟩
  have hvc : ∀ j v, (encN ⟨s, x, y⟩)[j]? = some v → w.cell? ((⟨vb, 0, none⟩ : Addr).add j) = some v := fun j v hj => by
    have := hvA.cell 0 (by simp) j v hj
    rw [add_at]
    simpa using this
  obtain ⟨A', c', hv, hnc, hcm, hA⟩ := own_form ho
  injection hv with hv1 _ hv2
  subst hv1
  subst hv2
  obtain ⟨RES, hRES⟩ : ∃ RES, (l.take i ++ ⟨s, x, y⟩ :: l.drop i).flatMap encN = RES := ⟨_, rfl⟩
  rw [hRES]
  have hsl0 : ∀ W, (Instr.slice 29 (.slice A n c) (some (.int .i64 (i : Int))) none none).run Tryd.prog W = .ok (.slice (sub A c i 3) (n - i) (c - i)) W := fun W => run_slice_from Tryd.underlying29 hi hz1 A n c W i hin
  by_cases hie : i = n
  · subst hie
    have hall : l.take i = l := List.take_of_length_le (by rw [hl]; exact Nat.le_refl _)
    have hdn : l.drop i = [] := List.drop_of_length_le (by rw [hl]; exact Nat.le_refl _)
    have HR := Lib.hid (show RES = l.flatMap encN ++ [(⟨s, x, y⟩ : Nod)].flatMap encN by rw [← hRES, hall, hdn, List.flatMap_append])
    clear hall hdn hl hA hvc P hRES
    go_enter Tryd.func145, Tryd.ntmps145
    go_wp2_with (at_builtin; refine wpList_append_at _ rfl _ _ 29 rfl base 73 i0 (.agg #[.string ByteArray.empty, .int .i64 0, .int .i64 0]) 3 32 Tryd.underlying29 hi hz0 hz1 hz2 rfl (by decide) (.slice A i c) i _ rfl ho encN_len encN_one _ 1 1 [⟨s, x, y⟩] rfl rfl hvA (by unfold maxLen; omega) (by omega) hb ?_; intro v3 w3 ho3 hg3 hv3)
    go_ret
    refine ⟨v3, rfl, ?_, hg3⟩
    rw [HR.out]
    exact ho3
  · have hlt : i < n := by omega
    have hA4 := (hA (by omega)).1
    have hge := (hA (by omega)).2.1
    have hbl := (hA (by omega)).2.2
    obtain ⟨b, hbb⟩ : ∃ b, blk A = b := ⟨_, rfl⟩
    rw [hbb] at hA4 hge hbl
    clear hA hbb
    subst hA4
    have hbv : b ≠ vb := hvb b rfl
    have hsub : sub (some ⟨b, 0, none⟩) c i 3 = some ⟨b, i * 3, none⟩ := by unfold sub; rw [if_neg (by omega), Option.map_some, add_at, Nat.zero_add]
    rw [hsub] at hsl0
    have hdc := drop_cells l i (by omega)
    have htc := take_cells l i (by omega)
    have hdl : ((l.drop i).flatMap encN).length = (n - i) * 3 := by rw [flat_len encN_len, List.length_drop, hl]
    have htl : ((l.take i).flatMap encN).length = i * 3 := by rw [flat_len encN_len, List.length_take]; congr 1; omega
    have hll : (l.flatMap encN).length = n * 3 := ho.1
    have hd1 : ∀ u ∈ (l.drop i).flatMap encN, u.oneCell' = true := fun u hu => by
      obtain ⟨q, _, hq⟩ := List.mem_flatMap.1 hu
      exact encN_one q u hq
    have hne : ((i : Int) == (n : Int)) = false := beq_eq_false_iff_ne.2 (by omega)
    have hR : RES = (l.take i).flatMap encN ++ encN ⟨s, x, y⟩ ++ (l.drop i).flatMap encN := by
      rw [← hRES, List.flatMap_append, List.flatMap_cons, List.append_assoc]
    have hLTD : l.flatMap encN = (l.take i).flatMap encN ++ (l.drop i).flatMap encN := by rw [← List.flatMap_append, List.take_append_drop]
    have HLTD := Lib.hid hLTD
    have hdcell : ∀ j v, ((l.drop i).flatMap encN)[j]? = some v → w.cell? ((⟨b, i * 3, none⟩ : Addr).add j) = some v := fun j v hj => by
      have hjl : j < (n - i) * 3 := by rw [← hdl]; exact (List.getElem?_eq_some_iff.1 hj).1
      rw [add_at, ho.cellAt (i * 3 + j) (by omega)]
      rwa [hdc, List.getElem?_drop] at hj
    obtain ⟨O1, hO1⟩ : ∃ O : Nat, i * 3 = O := ⟨_, rfl⟩
    obtain ⟨O2, hO2⟩ : ∃ O : Nat, (i + 1) * 3 = O := ⟨_, rfl⟩
    obtain ⟨L0, hL0⟩ : ∃ L : Nat, n - i = L := ⟨_, rfl⟩
    obtain ⟨L1, hL1⟩ : ∃ L : Nat, n + 1 - i = L := ⟨_, rfl⟩
    obtain ⟨L2, hL2⟩ : ∃ L : Nat, n + 1 - (i + 1) = L := ⟨_, rfl⟩
    obtain ⟨C1, hC1⟩ : ∃ L : Nat, c - i = L := ⟨_, rfl⟩
    obtain ⟨C2, hC2⟩ : ∃ L : Nat, c - (i + 1) = L := ⟨_, rfl⟩
    have HO1 := Lib.hid hO1
    have HO2 := Lib.hid hO2
    have HL0 := Lib.hid hL0
    have HL1 := Lib.hid hL1
    have HL2 := Lib.hid hL2
    rw [hO1, hL0, hC1] at hsl0
    rw [hO1] at hdcell
    have HDL := Lib.hid hdl
    have HTL := Lib.hid htl
    have HR := Lib.hid hR
    have HD1 := Lib.hid hd1
    have HDC := Lib.hid hdc
    have HLL := Lib.hid hll
    have HDCELL := Lib.hid hdcell
    have HVC := Lib.hid hvc
    have he3 : (encN ⟨s, x, y⟩).length = 3 := rfl
    have hwi : IntKind.i64.wrap ((i : Int) + 1) = (i : Int) + 1 := IntWalk.i64_in _ (by omega)
    have hmin1 : Nat.min 1 (n + 1 - i) = 1 := by simp only [Nat.min_def]; split <;> omega
    rw [hL1] at hmin1
    have HM1 := Lib.hid hmin1
    clear hdl htl hR hd1 hsub hl hdc hll hdcell hvc hRES hLTD htc hmin1 hL0
    by_cases hroom : n + 1 ≤ c
    · -- there is room
      obtain ⟨ys, hys, ho1⟩ := own_more ho (show n ≤ n + 1 by omega) hroom
      have hg0 : decide ((c : Int) < (n : Int) + 1) = false := decide_eq_false (by omega)
      have hslU : ∀ W, (Instr.slice 29 (.slice (some ⟨b, 0, none⟩) n c) none (some (.int .i64 ((n : Int) + 1))) none).run Tryd.prog W = .ok (.slice (some ⟨b, 0, none⟩) (n + 1) c) W := fun W => by
        have := run_slice_upto Tryd.underlying29 hi hz1 (some ⟨b, 0, none⟩) n c W (n + 1) hroom
        rwa [show (((n + 1 : Nat)) : Int) = (n : Int) + 1 by omega] at this
      have hslF : ∀ W, (Instr.slice 29 (.slice (some ⟨b, 0, none⟩) (n + 1) c) (some (.int .i64 (i : Int))) none none).run Tryd.prog W = .ok (.slice (some ⟨b, i * 3, none⟩) (n + 1 - i) (c - i)) W := fun W => by
        have := run_slice_from Tryd.underlying29 hi hz1 (some ⟨b, 0, none⟩) (n + 1) c W i (by omega)
        have e : sub (some ⟨b, 0, none⟩) c i 3 = some ⟨b, i * 3, none⟩ := by unfold sub; rw [if_neg (by omega), Option.map_some, add_at, Nat.zero_add]
        rwa [e] at this
      have hslG : ∀ W, (Instr.slice 29 (.slice (some ⟨b, 0, none⟩) (n + 1) c) (some (.int .i64 ((i : Int) + 1))) none none).run Tryd.prog W = .ok (.slice (some ⟨b, (i + 1) * 3, none⟩) (n + 1 - (i + 1)) (c - (i + 1))) W := fun W => by
        have := run_slice_from Tryd.underlying29 hi hz1 (some ⟨b, 0, none⟩) (n + 1) c W (i + 1) (by omega)
        have e : sub (some ⟨b, 0, none⟩) c (i + 1) 3 = some ⟨b, (i + 1) * 3, none⟩ := by unfold sub; rw [if_neg (by omega), Option.map_some, add_at, Nat.zero_add]
        rw [e] at this
        rwa [show (((i + 1 : Nat)) : Int) = (i : Int) + 1 by omega] at this
      rw [hO1, hL1, hC1] at hslF
      rw [hO2, hL2, hC2] at hslG
      have hov : ∀ lb cb, (callFunc 155 #[.slice (some ⟨vb, 0, none⟩) 1 1, .slice (some ⟨b, O2, none⟩) lb cb]).run Tryd.prog w = .ok (.value (.bool false)) w := fun lb cb => by
        have hsh : ∃ kB, w.shape? b = some (73, kB) ∧ kB ≠ 0 := by
          rcases ho.2 with ⟨h', _⟩ | ⟨g', cap', cur, h', _, hgg, _, _, hcs, _⟩
          · simp at h'
          · simp only [Value.slice.injEq, Option.some.injEq, Addr.mk.injEq, and_true, true_and] at h'
            obtain ⟨rfl, rfl⟩ := h'
            exact ⟨cur.size, by unfold World.shape?; rw [hgg], by omega⟩
        obtain ⟨kB, hkB, hkB0⟩ := hsh
        have hsA : w.shape? vb = some (73, 3) := by unfold World.shape?; rw [show w.heap[vb]? = _ from P]; rfl
        rw [run_callFunc_extern Tryd.func155 (by kernel_rfl) (by kernel_rfl) (by kernel_rfl) (e := Extern.SlicesOverlaps.overlaps #[29, 29] #[4]) (by kernel_rfl),
          Lib.run_overlaps_apart w 29 4 73 Tryd.underlying29 3 sizeN ⟨vb, 0, none⟩ ⟨b, O2, none⟩ 1 1 lb cb (Ne.symm hbv) 73 73 3 kB hsA hkB hkB0 (P.frozen 0) (P.frozen 3)]
        rfl
      have HOV := hov
      clear hov hO1 hO2 hL1 hL2 hC1 hC2
      go_enter Tryd.func145, Tryd.ntmps145
      go_upto_region 15 with (simp only [HOV])
      have hoD : w.drew.ownsRow base 73 3 (.slice (some ⟨b, 0, none⟩) (n + 1) c) (n + 1) (l.flatMap encN ++ ys) := ho1
      have hmin : Nat.min L1 L2 = n - i := by have h1 := HL1.out; have h2 := HL2.out; simp only [Nat.min_def]; split <;> omega
      go_region_law (refine step_copy_own _ (by exact rfl) (.tmp 73) (.tmp 76) 29 29 (by exact rfl) 73 3 base b O2 (n + 1) c L2 C2 ⟨b, O1, none⟩ L1 C1 (l.flatMap encN ++ ys) ((l.drop i).flatMap encN) (by go_simp) (by go_simp) Tryd.underlying29 i0 hi hz1 hoD (by rw [HDL.out, hmin]) (by rw [HDL.out]; have := HO2.out; omega) (fun j v hj => HDCELL.out j v hj) HD1.out ?_; intro w3 ho3 hg3)
      all_goals
        have hvc3 : ∀ j v, (encN ⟨s, x, y⟩)[j]? = some v → w3.cell? ((⟨vb, 0, none⟩ : Addr).add j) = some v := fun j v hj => by
          have h0 := HVC.out j v hj
          rw [add_at] at h0 ⊢
          exact hg3.cell (a := ⟨vb, 0 + j, none⟩) h0 (by simp; omega)
        have HV3 := Lib.hid hvc3
        have HG3 := Lib.hid hg3
        have t1 : (encN ⟨s, x, y⟩).length = Nat.min 1 L1 * 3 := by rw [HM1.out]; rfl
        have t2 : O1 + (encN ⟨s, x, y⟩).length ≤ (n + 1) * 3 := by rw [he3]; have := HO1.out; omega
        have t3 : ∀ v ∈ encN ⟨s, x, y⟩, v.oneCell' = true := fun v hv => encN_one ⟨s, x, y⟩ v hv
        clear hvc3 hg3 hoD
        go_wp2_with (refine wpList_copy_own _ rfl _ _ 29 29 rfl 73 3 base b O1 (n + 1) c L1 C1 ⟨vb, 0, none⟩ 1 1 (setR (l.flatMap encN ++ ys) O2 ((l.drop i).flatMap encN)) (encN ⟨s, x, y⟩) rfl rfl Tryd.underlying29 i0 hi hz1 ho3 t1 t2 (fun j v hj => HV3.out j v hj) t3 ?_; intro w4 ho4 hg4)
        go_ret
        refine ⟨_, rfl, ?_, grown_two (grown_two (grown_drew w (some b)) HG3.out) hg4⟩
        have := ho4
        rw [← HO1.out, ← HO2.out, HLTD.out, ins_room HTL.out he3 HDL.out (by rw [hys]; omega), ← HR.out] at this
        exact this
    · -- a new row
      have hgt : decide ((c : Int) < (n : Int) + 1) = true := decide_eq_true (by omega)
      obtain ⟨KK, hKK⟩ : ∃ KK : Nat, KK = n + 1 - i := ⟨_, rfl⟩
      have hkk : (n : Int) + 1 - (i : Int) = (KK : Int) := by omega
      have hik : i + KK = n + 1 := by omega
      have HIK := Lib.hid hik
      have hKn : KK = n - i + 1 := by omega
      have HKN := Lib.hid hKn
      have hslI : ∀ W, (Instr.slice 29 (.slice (some ⟨b, 0, none⟩) n c) none (some (.int .i64 (i : Int))) none).run Tryd.prog W = .ok (.slice (some ⟨b, 0, none⟩) i c) W := fun W => run_slice_upto Tryd.underlying29 hi hz1 (some ⟨b, 0, none⟩) n c W i (by omega)
      have htcell : ∀ j v, ((l.take i).flatMap encN)[j]? = some v → w.cell? ((⟨b, 0, none⟩ : Addr).add j) = some v := fun j v hj => by
        have hjl : j < i * 3 := by rw [← HTL.out]; exact (List.getElem?_eq_some_iff.1 hj).1
        rw [add_at, Nat.zero_add, ho.cellAt j (by omega), HLTD.out, List.getElem?_append_left (by rw [HTL.out]; exact hjl)]
        exact hj
      have HTC := Lib.hid htcell
      obtain ⟨h, hh⟩ : ∃ h, w.heap.size = h := ⟨_, rfl⟩
      have HH := Lib.hid hh
      have hvl := P.lt
      clear hKK hik hKn htcell hh hC2
      go_enter Tryd.func145, Tryd.ntmps145
      go_upto_region 10 with (at_builtin; refine wpList_grow_zeros _ rfl _ _ 29 3 rfl 73 i0 (.agg #[.string ByteArray.empty, .int .i64 0, .int .i64 0]) .i64 .i64 3 base ⟨b, 0, none⟩ i c KK ((l.take i).flatMap encN) rfl rfl Tryd.underlying29 Tryd.underlying3 hi hz0 hz1 rfl HTL.out (fun j v hj => HTC.out j v hj) (by omega) (by omega) (by have := HIK.out; omega) (by unfold maxLen; omega) (by rw [hz2]; omega) (growslice_fits (by have := HIK.out; omega) (by rw [hz2]; omega)) hb ?_; intro G zs w3 hG1 hG2 hzl ho3 hg3)
      have hzl2 := hzl
      rw [HKN.out] at hzl2
      have HZ := Lib.hid hzl2
      have hik := HIK.out
      rw [HH.out] at ho3
      rw [hik] at ho3 hG1
      clear hzl hzl2
      try rw [HH.out]
      try rw [hik]
      have hslS : ∀ W, (Instr.slice 29 (.slice (some ⟨h, 0, none⟩) (n + 1) G) (some (.int .i64 (i : Int))) none none).run Tryd.prog W = .ok (.slice (some ⟨h, i * 3, none⟩) (n + 1 - i) (G - i)) W := fun W => by
        have := run_slice_from Tryd.underlying29 hi hz1 (some ⟨h, 0, none⟩) (n + 1) G W i (by omega)
        have e : sub (some ⟨h, 0, none⟩) G i 3 = some ⟨h, i * 3, none⟩ := by unfold sub; rw [if_neg (by omega), Option.map_some, add_at, Nat.zero_add]
        rwa [e] at this
      have hslT : ∀ W, (Instr.slice 29 (.slice (some ⟨h, 0, none⟩) (n + 1) G) (some (.int .i64 ((i : Int) + 1))) none none).run Tryd.prog W = .ok (.slice (some ⟨h, (i + 1) * 3, none⟩) (n + 1 - (i + 1)) (G - (i + 1))) W := fun W => by
        have := run_slice_from Tryd.underlying29 hi hz1 (some ⟨h, 0, none⟩) (n + 1) G W (i + 1) (by omega)
        have e : sub (some ⟨h, 0, none⟩) G (i + 1) 3 = some ⟨h, (i + 1) * 3, none⟩ := by unfold sub; rw [if_neg (by omega), Option.map_some, add_at, Nat.zero_add]
        rw [e] at this
        rwa [show (((i + 1 : Nat)) : Int) = (i : Int) + 1 by omega] at this
      obtain ⟨G1, hGG1⟩ : ∃ L : Nat, G - i = L := ⟨_, rfl⟩
      obtain ⟨G2, hGG2⟩ : ∃ L : Nat, G - (i + 1) = L := ⟨_, rfl⟩
      rw [hO1, hL1, hGG1] at hslS
      rw [hO2, hL2, hGG2] at hslT
      clear hO1 hO2 hL1 hL2 hC1 hGG1 hGG2
      have hvc3 : ∀ j v, (encN ⟨s, x, y⟩)[j]? = some v → w3.cell? ((⟨vb, 0, none⟩ : Addr).add j) = some v := fun j v hj => by
        have h0 := HVC.out j v hj
        rw [add_at] at h0 ⊢
        exact hg3.cell (a := ⟨vb, 0 + j, none⟩) h0 (by simp)
      have HV3 := Lib.hid hvc3
      have HG3 := Lib.hid hg3
      have t1 : (encN ⟨s, x, y⟩).length = Nat.min 1 L1 * 3 := by rw [HM1.out]; rfl
      have t2 : O1 + (encN ⟨s, x, y⟩).length ≤ (n + 1) * 3 := by rw [he3]; have := HO1.out; omega
      have t3 : ∀ v ∈ encN ⟨s, x, y⟩, v.oneCell' = true := fun v hv => encN_one ⟨s, x, y⟩ v hv
      clear hvc3 hg3 hik
      go_upto_region 11 with (refine wpList_copy_own _ rfl _ _ 29 29 rfl 73 3 base h O1 (n + 1) G L1 G1 ⟨vb, 0, none⟩ 1 1 ((l.take i).flatMap encN ++ zs) (encN ⟨s, x, y⟩) rfl rfl Tryd.underlying29 i0 hi hz1 ho3 t1 t2 (fun j v hj => HV3.out j v hj) t3 ?_; intro w4 ho4 hg4)
      have hd4 : ∀ j v, ((l.drop i).flatMap encN)[j]? = some v → w4.drew.cell? ((⟨b, O1, none⟩ : Addr).add j) = some v := fun j v hj => by
        have h0 := HDCELL.out j v hj
        rw [add_at] at h0 ⊢
        have h1 := HG3.out.cell (a := ⟨b, O1 + j, none⟩) h0 (by simp)
        exact hg4.cell (a := ⟨b, O1 + j, none⟩) h1 (by simp; have := HH.out; omega)
      have HD4 := Lib.hid hd4
      have hoD : w4.drew.ownsRow base 73 3 (.slice (some ⟨h, 0, none⟩) (n + 1) G) (n + 1) (setR ((l.take i).flatMap encN ++ zs) O1 (encN ⟨s, x, y⟩)) := ho4
      have hmin : Nat.min L0 L2 = n - i := by have h1 := HL0.out; have h2 := HL2.out; simp only [Nat.min_def]; split <;> omega
      have HM2 := Lib.hid hmin
      clear hd4 ho3 hmin
      go_region_law (refine step_copy_own _ (by exact rfl) (.tmp 50) (.tmp 53) 29 29 (by exact rfl) 73 3 base h O2 (n + 1) G L2 G2 ⟨b, O1, none⟩ L0 C1 (setR ((l.take i).flatMap encN ++ zs) O1 (encN ⟨s, x, y⟩)) ((l.drop i).flatMap encN) (by go_simp) (by go_simp) Tryd.underlying29 i0 hi hz1 hoD (by rw [HDL.out, HM2.out]) (by rw [HDL.out]; have := HO2.out; omega) (fun j v hj => HD4.out j v hj) HD1.out ?_; intro w5 ho5 hg5)
      all_goals
        go_wp2_with fail
        go_ret
        refine ⟨_, rfl, ?_, ?_⟩
        · have := ho5
          rw [← HO1.out, ← HO2.out, ins_grow HTL.out he3 HDL.out HZ.out, ← HR.out] at this
          exact this
        · have hg45 := grown_two hg4 (grown_two (grown_drew w4 (some h)) hg5)
          exact ⟨hg45.os.trans HG3.out.os, hg45.tape.trans HG3.out.tape, hg45.output.trans HG3.out.output, Nat.le_trans HG3.out.size hg45.size, fun q hq hqb => (hg45.block q (Nat.lt_of_lt_of_le hq HG3.out.size) (by have := HH.out; intro he; injection he with he; omega)).trans (HG3.out.block q hq (by simp))⟩

theorem cloneTree_any (A : Option Addr) (n c : Nat) (l : List Nod) (w : World) (base : Nat) (hn : n ≤ 1100000) (hl : l.length = n) (ha : At encN 3 w A l) (hb : base ≤ w.heap.size) :
    Calls Tryd.prog 57 #[.slice A n c] w fun e w' => ∃ A' c', e = .returned (.slice A' n c') ∧ w'.ownsRow w.heap.size 73 3 (.slice A' n c') n (l.flatMap encN) ∧ Below w.heap.size w w' := by
  obtain ⟨i0, hi, hz0, hz1, hz2⟩ := info_parts infoN
  have ho0 := World.ownsRow_nil w w.heap.size 73 3
  go_enter Tryd.func57, Tryd.ntmps57
  go_wp2_with (at_builtin; refine wpList_append_at _ rfl _ _ 29 rfl w.heap.size 73 i0 (.agg #[.string ByteArray.empty, .int .i64 0, .int .i64 0]) 3 32 Tryd.underlying29 hi hz0 hz1 hz2 rfl (by decide) (.slice none 0 0) 0 [] rfl ho0 encN_len encN_one A n c l rfl hl ha (by unfold maxLen; omega) (by omega) (by omega) ?_; intro v3 w3 ho3 hg3 hv3)
  go_ret
  have ho4 : w3.ownsRow w.heap.size 73 3 v3 n (l.flatMap encN) := by simpa using ho3
  obtain ⟨A', c', rfl, _, _, _⟩ := own_form ho4
  exact ⟨A', c', rfl, ho4, below_app (Below.refl _ _) hg3 (own_ge ho0)⟩
end Go.Proofs.YtlhhplhciiobfaaDoor
