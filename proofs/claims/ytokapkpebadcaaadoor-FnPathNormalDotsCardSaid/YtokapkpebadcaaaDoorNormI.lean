/- Normal paths, by the program. -/
import Derived.Test.YtokapkpebadcaaaDoorNorm
import Derived.WalkSmall
import Derived.Lib.Join
namespace Go.Proofs.YtokapkpebadcaaaDoor
open Go.RowKit
set_option linter.unusedVariables false
set_option linter.unusedSimpArgs false
set_option maxRecDepth 20000

theorem joinTail_names (st : List UInt8) : Lib.joinTail [47] (st.map fun c => [c]) = joinC st := by
  induction st with
  | nil => rfl
  | cons c st ih =>
    unfold Lib.joinTail at ih ⊢
    rw [List.map_cons, List.map_cons, List.flatten_cons, ih, joinC_cons]; rfl
theorem join_names {st : List UInt8} (h : st ≠ []) : 47 :: Lib.join (st.map fun c => [c]) [47] = joinC st := by
  cases st with
  | nil => exact absurd rfl h
  | cons c st => rw [List.map_cons, Lib.join_cons, joinTail_names, joinC_cons]; rfl
theorem own_pop {w : World} {base : Nat} {e : TypeId} {c m : Nat} {A : Option Addr} {ns : List ByteArray} {x : ByteArray} (hm : ns.length = m) (h : w.ownsRow base e 1 (.slice A (m + 1) c) (m + 1) ((ns ++ [x]).flatMap encS)) : w.ownsRow base e 1 (.slice A m c) m (ns.flatMap encS) := by
  obtain ⟨A', c', hv, _, _, hA⟩ := own_form h
  injection hv with hv1 _ hv3
  subst hv1; subst hv3
  have h1 := (hA (by omega)).1
  rw [h1] at h ⊢
  rw [List.flatMap_append] at h
  exact Go.ownsRow_pop (last := [x].flatMap encS) (by rw [flat_len encS_len, hm]) h
theorem hasPrefix_slash (l : List UInt8) : Lib.hasPrefix l [47] = decide (l.head? = some 47) := by
  unfold Lib.hasPrefix
  cases l with
  | nil => rfl
  | cons b l =>
    rw [List.isPrefixOf]
    by_cases h : b = 47
    · subst h; simp
    · simp [h, Ne.symm h]
set_option maxRecDepth 200000 in
set_option maxHeartbeats 4000000 in
theorem implNorm_any (s : ByteArray) (w : World) (hs : s.size ≤ 1048576) (hm : MaxAt w) : Calls Tryd.prog 24 #[.string s] w (NormOf s.data.toList w) := by
  obtain ⟨i0, hi, hz0, hz1, hz2⟩ := info_parts infoStr
  have HMAX := Lib.hid hm
  clear hm
  by_cases h40 : 40 < s.size
  · have HN := Lib.hid (norm_long (l := s.data.toList) (by rw [← Lib.size_eq]; exact h40))
    go_enter Tryd.func24, Tryd.ntmps24
    go_wp2_with fail
    refine bodyPost_ret (v := .tuple #[.string ⟨#[]⟩, .bool false]) (by simp [results, Tryd.results24, go_sem]) rfl (NormOf.no HN.out (Below.refl _ _))
  by_cases hh : s.data.toList.head? = some 47
  case neg =>
    have HN := Lib.hid (norm_head hh)
    have HPF := Lib.hid (show Lib.hasPrefix s.data.toList (⟨#[47]⟩ : ByteArray).data.toList = false by rw [show (⟨#[47]⟩ : ByteArray).data.toList = [47] from rfl, hasPrefix_slash, decide_eq_false hh])
    clear hh
    go_enter Tryd.func24, Tryd.ntmps24
    go_wp2_with fail
    refine (Tryd.strings_HasPrefix _ _ _).mono ?_
    rw [HPF.out]
    rintro e w' ⟨rfl, rfl⟩
    go_wp2_with fail
    refine bodyPost_ret (v := .tuple #[.string ⟨#[]⟩, .bool false]) (by simp [results, Tryd.results24, go_sem]) rfl (NormOf.no HN.out (Below.refl _ _))
  obtain ⟨r, hl⟩ : ∃ r, s.data.toList = 47 :: r := by
    cases hd : s.data.toList with
    | nil => rw [hd] at hh; cases hh
    | cons b r => rw [hd] at hh; simp at hh; subst hh; exact ⟨r, rfl⟩
  have HPF := Lib.hid (show Lib.hasPrefix s.data.toList (⟨#[47]⟩ : ByteArray).data.toList = true by rw [show (⟨#[47]⟩ : ByteArray).data.toList = [47] from rfl, hasPrefix_slash, decide_eq_true hh])
  have hrl : r.length + 1 ≤ 40 := by have := size_is hl; simp at this; omega
  have HN := Lib.hid (show normL s.data.toList = endN (normParts (splitC 47 r)) by rw [hl]; exact norm_slash_eq hrl)
  have HS := Lib.hid (show splitC 47 s.data.toList = [] :: splitC 47 r by rw [hl]; simp [splitC])
  clear hl hh
  go_enter Tryd.func24, Tryd.ntmps24
  go_wp2_with fail
  refine (Tryd.strings_HasPrefix _ _ _).mono ?_
  rw [HPF.out]
  rintro e w' ⟨rfl, rfl⟩
  go_wp2_with fail
  refine (split_any 47 s _ hs HMAX.out).mono ?_
  rw [HS.out]
  rintro e w1 ⟨qs, A, c, rfl, hqs, ho, hb1⟩
  obtain ⟨q, ps, rfl⟩ : ∃ q ps, qs = q :: ps := by
    cases qs with
    | nil => cases hqs
    | cons q ps => exact ⟨q, ps, rfl⟩
  have hps : ps.map (·.data.toList) = splitC 47 r := (List.cons.inj hqs).2
  have at0 := own_at encS_len ho rfl
  obtain ⟨hNc, hcm⟩ := own_caps' ho
  have HM1 := Lib.hid (HMAX.out.belowS hb1)
  obtain ⟨N, hN⟩ : ∃ N, ps.length = N := ⟨_, rfl⟩
  have HNL := Lib.hid hN
  have hNb : N ≤ 40 := by
    rw [← hN]; have h2 := congrArg List.length hps; rw [List.length_map, splitC_len] at h2
    have h3 := List.count_le_length (a := (47 : UInt8)) (l := r)
    omega
  have at1 : At encS 1 w1 (sub A c 1 1) ps := by
    have := at0.sub (c := c) (lo := 1) (m := ps.length) hNc (by simp; omega)
    rwa [show ((q :: ps).drop 1).take ps.length = ps from by simp] at this
  rw [List.length_cons, hN] at hNc
  have hsl : ∀ W, (Instr.slice 54 (.slice A (N + 1) c) (some (.int .i64 1)) none none).run Tryd.prog W = .ok (.slice (sub A c 1 1) N (c - 1)) W := fun W => run_slice_from Tryd.underlying54 hi hz1 A (N + 1) c W 1 (by omega)
  rw [List.length_cons, hN]
  have HPS := Lib.hid hps
  clear hN hps hqs ho at0 hrl
  obtain ⟨A1, hA1⟩ : ∃ A1, sub A c 1 1 = A1 := ⟨_, rfl⟩
  rw [hA1] at at1 hsl
  clear hA1
  go_wp2_with fail
  go_loopw [4, 20] (fun v i wr => ∃ (k : Nat) (st : List UInt8) (ns : List ByteArray), i = .int .i64 k ∧ k ≤ N ∧ ns.length ≤ k ∧ Hid (ns.map (·.data.toList) = st.map (fun x => [x])) ∧ wr.ownsRow w1.heap.size 9 1 v ns.length (ns.flatMap encS) ∧ Hid (((ps.map (·.data.toList)).take k).foldl stepN (some []) = some st ∧ ∀ x ∈ st, letterB x = true) ∧ Below w1.heap.size w1 wr) (fun _ i _ => N - (intOf i).toNat)
  case atStart => exact ⟨0, [], [], rfl, Nat.zero_le _, Nat.le_refl _, Lib.hid rfl, World.ownsRow_nil _ _ _ _, Lib.hid ⟨rfl, fun x hx => by cases hx⟩, Below.refl _ _⟩
  case round =>
    obtain ⟨k, st, ns, rfl, hk, hnk, HNS, ho, HF, hbw⟩ := hrel
    have hzw := hbw.size
    have hbA := fun hl => at1.lt hl
    have at2 := at1.belowS hbw
    have hstl : ns.length = st.length := by have := congrArg List.length HNS.out; simpa using this
    have HSTL := Lib.hid hstl
    clear hstl
    by_cases hlt : k < N
    · have hlk : k < ps.length := by rw [HNL.out]; exact hlt
      have hlk2 : k < (ps.map (·.data.toList)).length := by rw [List.length_map]; exact hlk
      have hidx := fun W => run_index_one (c := c - 1) Tryd.underlying54 hi hz1 (at2.addr (by rw [HNL.out]; omega)) hlt W
      have c1 : wr.cell? ⟨blk A1, off A1 + k, none⟩ = some (.string ps[k]) := at2.cell1 hlk rfl
      obtain ⟨p, hpd⟩ : ∃ p : ByteArray, ps[k] = p := ⟨_, rfl⟩
      have HP := Lib.hid (show (ps.map (·.data.toList))[k] = p.data.toList by rw [List.getElem_map, hpd])
      rw [hpd] at c1
      have HFN := Lib.hid (show ((ps.map (·.data.toList)).take (k + 1)).foldl stepN (some []) = stepN (some st) p.data.toList by rw [fold_next hlk2, HF.out.1, HP.out])
      have HFF := Lib.hid (show stepN (some st) p.data.toList = none → normL s.data.toList = none from fun h => by rw [HN.out, ← HPS.out, fold_fail hlk2 HF.out.1 (by rw [HP.out]; exact h)]; rfl)
      have hbz := below_step hb1 hbw
      clear hpd
      by_cases h0 : p.data.toList = []
      · have e0 : (p.toList == []) = true := by rw [toList_beq h0]; rfl
        have HX := Lib.hid (HFN.out.trans (stepN_skip (.inl h0)))
        clear h0
        go_wp2_with fail
        go_roundw
        case rel => exact ⟨k + 1, st, ns, by go_num, by omega, by omega, HNS, ho, Lib.hid ⟨HX.out, HF.out.2⟩, hbw⟩
        case measure => simp [intOf]; omega
      have e0 : (p.toList == []) = false := by rw [toList_is rfl]; simpa using h0
      by_cases h1 : p.data.toList = [46]
      · have e1 : (p.toList == [46]) = true := by rw [toList_beq h1]; rfl
        have HX := Lib.hid (HFN.out.trans (stepN_skip (.inr h1)))
        clear h0 h1
        go_wp2_with fail
        go_roundw
        case rel => exact ⟨k + 1, st, ns, by go_num, by omega, by omega, HNS, ho, Lib.hid ⟨HX.out, HF.out.2⟩, hbw⟩
        case measure => simp [intOf]; omega
      have e1 : (p.toList == [46]) = false := by rw [toList_is rfl]; simpa using h1
      by_cases h2 : p.data.toList = [46, 46]
      · have e2 : (p.toList == [46, 46]) = true := by rw [toList_beq h2]; rfl
        by_cases hst0 : st = []
        · obtain rfl : ns = [] := List.eq_nil_of_length_eq_zero (by rw [HSTL.out, hst0]; rfl)
          have HX := Lib.hid (HFF.out (by rw [h2, hst0, stepN_up0]))
          have HNM := Lib.hid (show nameB p.data.toList = false by rw [h2]; rfl)
          obtain ⟨A3, c3, rfl, -⟩ := own_form ho
          simp only [List.length_nil] at ho ⊢
          clear h0 h1 h2 hst0
          go_wp2_with fail
          refine (implName_any _ _).mono ?_
          rw [HNM.out]
          rintro e w' ⟨rfl, rfl⟩
          go_wp2_with fail
          refine bodyPost_ret (v := .tuple #[.string ⟨#[]⟩, .bool false]) (by simp [results, Tryd.results24, go_sem]) rfl (NormOf.no HX.out hbz)
        · have hne : ns ≠ [] := by rintro rfl; have := HSTL.out; exact hst0 (List.eq_nil_of_length_eq_zero this.symm)
          obtain ⟨ns', x, rfl⟩ := snoc_of hne
          obtain ⟨st', y, rfl⟩ := snoc_of hst0
          obtain ⟨m, hmn⟩ : ∃ m, ns'.length = m := ⟨_, rfl⟩
          have HMN := Lib.hid hmn
          obtain ⟨M, hM⟩ : ∃ M, m + 1 = M := ⟨_, rfl⟩
          have hl1 : (ns' ++ [x]).length = M := by simp [hmn, hM]
          rw [hl1] at ho hnk
          obtain ⟨A3, c3, rfl, h3c, h3m, -⟩ := own_form ho
          have hop := own_pop hmn (by rw [hM]; exact ho)
          rw [← hmn] at hop
          have hM1 : 1 ≤ M := by omega
          have hsl2 : ∀ W, (Instr.slice 54 (.slice A3 M c3) none (some (.int .i64 ((M : Int) - 1))) none).run Tryd.prog W = .ok (.slice A3 m c3) W := fun W => by
            have e : ((M : Int) - 1) = (m : Int) := by omega
            rw [e]; exact run_slice_upto Tryd.underlying54 hi hz1 A3 M c3 W m (by omega)
          have hMk : m ≤ k := by omega
          have HX := Lib.hid (HFN.out.trans (show stepN (some (st' ++ [y])) p.data.toList = some st' by rw [h2, stepN_up (by simp)]; simp))
          have HL := Lib.hid (show ∀ z ∈ st', letterB z = true from fun z hz => HF.out.2 z (List.mem_append_left _ hz))
          have HQ := Lib.hid (show ns'.map (·.data.toList) = st'.map (fun x => [x]) by
            have := HNS.out
            rw [List.map_append, List.map_append] at this
            exact (List.append_inj' this rfl).1)
          clear h0 h1 h2 hst0 hne hl1 ho hmn hM
          go_wp2_with fail
          go_roundw
          case rel => exact ⟨k + 1, st', ns', by go_num, by omega, by rw [HMN.out]; omega, HQ, by rw [HMN.out] at hop ⊢; exact hop, Lib.hid ⟨HX.out, HL.out⟩, hbw⟩
          case measure => simp [intOf]; omega
      have e2 : (p.toList == [46, 46]) = false := by rw [toList_is rfl]; simpa using h2
      cases hn : nameB p.data.toList with
      | true =>
        have HX := Lib.hid (HFN.out.trans (stepN_name hn))
        obtain ⟨x, hx1, hx2⟩ := nameB_form hn
        have HL := Lib.hid (show ∀ z ∈ st ++ p.data.toList, letterB z = true from fun z hz => by
          rcases List.mem_append.1 hz with hz | hz
          · exact HF.out.2 z hz
          · rw [hx1] at hz; simp at hz; subst hz; exact hx2)
        have HQ := Lib.hid (show (ns ++ [p]).map (·.data.toList) = (st ++ p.data.toList).map (fun x => [x]) by
          rw [List.map_append, List.map_append, HNS.out, hx1]; simp [hx1])
        have HNM := Lib.hid hn
        have ho2 := ho.alloc (.cells #[.string p] 9)
        have hn2 := at_new (enc := encS) wr encS_len [p] 9 #[.string p] rfl (show 1 ≤ maxLen by decide)
        clear h0 h1 h2 hn hx1 hx2
        go_wp2_with fail
        refine (implName_any _ _).mono ?_
        rw [HNM.out]
        rintro e w' ⟨rfl, rfl⟩
        go_wp2_with (at_builtin; refine wpList_append_at _ rfl _ _ 54 rfl w1.heap.size 9 i0 (.string ByteArray.empty) 1 16 Tryd.underlying54 hi hz0 hz1 hz2 rfl (by decide) _ ns.length _ rfl ho2 encS_len encS_one _ 1 1 [p] rfl rfl hn2 (by unfold maxLen; omega) (by omega) (by simp; omega) ?_; intro v3 w3 ho3 hg3 hv3)
        go_roundw
        case rel =>
          refine ⟨k + 1, st ++ p.data.toList, ns ++ [p], by go_num, by omega, by simp; omega, HQ, ?_, Lib.hid ⟨HX.out, HL.out⟩, below_app (below_alloc hbw _) hg3 (own_ge ho)⟩
          rw [List.length_append, List.flatMap_append]; exact ho3
        case measure => simp [intOf]; omega
      | false =>
        have HX := Lib.hid (HFF.out (stepN_bad h0 h1 h2 hn))
        have HNM := Lib.hid hn
        clear h0 h1 h2 hn
        go_wp2_with fail
        refine (implName_any _ _).mono ?_
        rw [HNM.out]
        rintro e w' ⟨rfl, rfl⟩
        go_wp2_with fail
        refine bodyPost_ret (v := .tuple #[.string ⟨#[]⟩, .bool false]) (by simp [results, Tryd.results24, go_sem]) rfl (NormOf.no HX.out hbz)
    · obtain rfl : N = k := by omega
      have hall := HF.out.1
      rw [List.take_of_length_le (by rw [List.length_map, HNL.out]; exact Nat.le_refl _)] at hall
      have HE := Lib.hid (show normL s.data.toList = endN (some st) by rw [HN.out, ← HPS.out]; unfold normParts; rw [hall])
      have hbz := below_step hb1 hbw
      have HMr := Lib.hid (HM1.out.belowS hbw)
      clear hall
      by_cases hst0 : st = []
      · obtain rfl : ns = [] := List.eq_nil_of_length_eq_zero (by rw [HSTL.out, hst0]; rfl)
        have HX := Lib.hid (show normL s.data.toList = some (⟨#[47]⟩ : ByteArray).data.toList by rw [HE.out, hst0]; rfl)
        obtain ⟨A3, c3, rfl, -⟩ := own_form ho
        simp only [List.length_nil] at ho ⊢
        clear hst0
        go_wp2_with fail
        refine (Tryd.strings_Join_none _ _ _ _).mono ?_
        rintro e w' ⟨rfl, rfl⟩
        have hcat : (⟨#[47]⟩ ++ ⟨#[]⟩ : ByteArray) = ⟨#[47]⟩ := by rfl
        go_wp2_with fail
        try rw [hcat]
        refine (implPath_any ⟨#[47]⟩ _ (by decide) HMr.out).mono ?_
        rw [show pathB (⟨#[47]⟩ : ByteArray).data.toList = true from rfl]
        rintro e w2 ⟨rfl, hb2⟩
        go_wp2_with fail
        refine bodyPost_ret (v := .tuple #[.string ⟨#[47]⟩, .bool true]) (by simp [results, Tryd.results24, go_sem]) rfl (NormOf.yes HX.out (below_step hbz hb2))
      · have hne : 0 < ns.length := by rw [HSTL.out]; exact List.length_pos_iff.2 hst0
        obtain ⟨A3, c3, rfl, h3c, h3m, hA3⟩ := own_form ho
        have hA4 := (hA3 hne).1
        have hb4 := (hA3 hne).2.2
        obtain ⟨g3, hg3⟩ : ∃ g3, blk A3 = g3 := ⟨_, rfl⟩
        rw [hg3] at hA4 hb4
        have hcells : ∀ (j : Nat) x, ns[j]? = some x → wr.cell? ⟨g3, 0 + j, none⟩ = some (.string x) := by
          intro j x hx
          obtain ⟨hj, hjx⟩ := List.getElem?_eq_some_iff.1 hx
          have at3 := own_at encS_len ho rfl
          have h1 := at3.cell1 hj (u := .string ns[j]) rfl
          have ho3 : off A3 = 0 := by rw [hA4]; rfl
          rw [hg3, ho3, hjx] at h1
          exact h1
        have hjn : Lib.join (ns.map (·.data.toList)) [47] = Lib.join (st.map fun c => [c]) [47] := by rw [HNS.out]
        have hjl : (Lib.join (ns.map (·.data.toList)) [47]).length ≤ 100 := by
          have h1 := congrArg List.length (join_names hst0)
          rw [List.length_cons, joinC_len, ← hjn] at h1
          have := HSTL.out
          omega
        obtain ⟨jt, hjt⟩ : ∃ jt : ByteArray, ⟨(Lib.join (ns.map (·.data.toList)) [47]).toArray⟩ = jt := ⟨_, rfl⟩
        have hjd : jt.data.toList = Lib.join (ns.map (·.data.toList)) [47] := by rw [← hjt]
        have hjz : jt.size ≤ 100 := by rw [Lib.size_eq, hjd]; exact hjl
        have HD := Lib.hid (show (⟨#[47]⟩ ++ jt : ByteArray).data.toList = rootOr st by
          rw [ByteArray.data_append, Array.toList_append, hjd, hjn, rootOr_ne hst0, ← join_names hst0]; rfl)
        have HJ := Lib.hid (Tryd.strings_Join g3 0 c3 ns ⟨#[47]⟩ wr hcells hb4 (by omega) (by omega) (by rw [show (⟨#[47]⟩ : ByteArray).data.toList = [47] from rfl]; omega))
        have hjt2 : (⟨(Lib.join (ns.map (·.data.toList)) (⟨#[47]⟩ : ByteArray).data.toList).toArray⟩ : ByteArray) = jt := hjt
        rw [hjt2] at HJ
        clear hcells hjn hjl hjt hjd hA3 hst0 ho hjt2
        subst hA4
        clear hg3
        obtain ⟨M, hM⟩ : ∃ M, ns.length = M := ⟨_, rfl⟩
        rw [hM] at HJ ⊢
        clear hM hne
        go_wp2_with fail
        refine HJ.out.mono ?_
        rintro e w2 ⟨rfl, hb2⟩
        have hbz2 := below_step hbz hb2
        have HM2 := Lib.hid (HMr.out.belowS hb2)
        obtain ⟨pt, hpt⟩ : ∃ pt : ByteArray, (⟨#[47]⟩ ++ jt : ByteArray) = pt := ⟨_, rfl⟩
        have hpz : pt.size ≤ 200 := by rw [← hpt, ByteArray.size_append]; show 1 + jt.size ≤ 200; omega
        rw [hpt] at HD
        have HPT := Lib.hid hpt
        clear hpt
        cases hpb : pathB pt.data.toList with
        | true =>
          have HX := Lib.hid (show normL s.data.toList = some pt.data.toList by rw [HE.out]; unfold endN; simp only; rw [← HD.out, if_pos hpb])
          have HB := Lib.hid hpb
          clear hpb
          go_wp2_with fail
          rw [HPT.out]
          refine (implPath_any pt _ (by omega) HM2.out).mono ?_
          rw [HB.out]
          rintro e w3 ⟨rfl, hb3⟩
          go_wp2_with fail
          refine bodyPost_ret (v := .tuple #[.string pt, .bool true]) (by simp [results, Tryd.results24, go_sem]) rfl (NormOf.yes HX.out (below_step hbz2 hb3))
        | false =>
          have HX := Lib.hid (show normL s.data.toList = none by rw [HE.out]; unfold endN; simp only; rw [← HD.out, if_neg (by rw [hpb]; simp)])
          have HB := Lib.hid hpb
          clear hpb
          go_wp2_with fail
          rw [HPT.out]
          refine (implPath_any pt _ (by omega) HM2.out).mono ?_
          rw [HB.out]
          rintro e w3 ⟨rfl, hb3⟩
          go_wp2_with fail
          refine bodyPost_ret (v := .tuple #[.string ⟨#[]⟩, .bool false]) (by simp [results, Tryd.results24, go_sem]) rfl (NormOf.no HX.out (below_step hbz2 hb3))
end Go.Proofs.YtokapkpebadcaaaDoor
