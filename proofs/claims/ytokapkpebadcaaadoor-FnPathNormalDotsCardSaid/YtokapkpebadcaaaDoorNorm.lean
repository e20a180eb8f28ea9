/- Normal paths, by the reference. -/
import Derived.Test.YtokapkpebadcaaaDoorPath2
import Derived.Test.YtokapkpebadcaaaDoorPathM
namespace Go.Proofs.YtokapkpebadcaaaDoor
open Go.RowKit
set_option linter.unusedVariables false
set_option linter.unusedSimpArgs false
set_option maxRecDepth 20000

theorem stepN_skip {s p : List UInt8} (h : p = [] ∨ p = [46]) : stepN (some s) p = some s := by unfold stepN; simp only; rw [if_pos h]
theorem stepN_up0 : stepN (some []) [46, 46] = none := rfl
theorem stepN_up {s : List UInt8} (h : s ≠ []) : stepN (some s) [46, 46] = some s.dropLast := by unfold stepN; simp [h]
theorem stepN_name {s p : List UInt8} (h : nameB p = true) : stepN (some s) p = some (s ++ p) := by
  obtain ⟨c, rfl, hl⟩ := nameB_form h
  have hne : c ≠ 46 := by rintro rfl; exact absurd hl (by decide)
  unfold stepN
  simp [hne, nameB_one, hl]
theorem stepN_bad {s p : List UInt8} (h0 : p ≠ []) (h1 : p ≠ [46]) (h2 : p ≠ [46, 46]) (h3 : nameB p = false) : stepN (some s) p = none := by
  unfold stepN; simp [h0, h1, h2, h3]
theorem fold_next {ps : List (List UInt8)} {k : Nat} (hk : k < ps.length) (st : Option (List UInt8)) : (ps.take (k + 1)).foldl stepN st = stepN ((ps.take k).foldl stepN st) ps[k] := by
  rw [take_snoc' ps k hk, List.foldl_append]; rfl
theorem fold_fail {ps : List (List UInt8)} {k : Nat} (hk : k < ps.length) {s : List UInt8} (h : (ps.take k).foldl stepN (some []) = some s) (hn : stepN (some s) ps[k] = none) : normParts ps = none := by
  have h1 := fold_next hk (some [])
  rw [h, hn] at h1
  have h2 : ps = ps.take (k + 1) ++ ps.drop (k + 1) := (List.take_append_drop _ _).symm
  unfold normParts
  rw [h2, List.foldl_append, h1, stepN_none]

/-- The path that a text means, and whether there is one. -/
def normR (l : List UInt8) : List UInt8 × Bool := match normL l with
  | some p => (p, true)
  | none => ([], false)
def NormOf (l : List UInt8) (w : World) (e : Ending) (w' : World) : Prop := ∃ (s : ByteArray) (b : Bool), e = .returned (.tuple #[.string s, .bool b]) ∧ normR l = (s.data.toList, b) ∧ Below w.heap.size w w'
theorem normR_none {l : List UInt8} (h : normL l = none) : normR l = ([], false) := by unfold normR; rw [h]
theorem normR_some {l p : List UInt8} (h : normL l = some p) : normR l = (p, true) := by unfold normR; rw [h]
theorem NormOf.no {l : List UInt8} (h : normL l = none) {w w' : World} (hb : Below w.heap.size w w') : NormOf l w (.returned (.tuple #[.string ⟨#[]⟩, .bool false])) w' := ⟨⟨#[]⟩, false, rfl, normR_none h, hb⟩
theorem NormOf.yes {l : List UInt8} {s : ByteArray} (h : normL l = some s.data.toList) {w w' : World} (hb : Below w.heap.size w w') : NormOf l w (.returned (.tuple #[.string s, .bool true])) w' := ⟨s, true, rfl, normR_some h, hb⟩
theorem text_cases (l : List UInt8) : l = [] ∨ (∃ b r, l = b :: r ∧ b ≠ 47) ∨ (∃ r, l = 47 :: r) := by
  cases l with
  | nil => exact .inl rfl
  | cons b r =>
    by_cases hb : b = 47
    · subst hb; exact .inr (.inr ⟨r, rfl⟩)
    · exact .inr (.inl ⟨b, r, rfl, hb⟩)
theorem norm_long {l : List UInt8} (h : 40 < l.length) : normL l = none := by unfold normL; rw [if_neg (by omega)]
theorem norm_head {l : List UInt8} (h : l.head? ≠ some 47) : normL l = none := by unfold normL; rw [if_neg (fun h' => h h'.2)]
theorem norm_slash_eq {r : List UInt8} (h : r.length + 1 ≤ 40) : normL (47 :: r) = endN (normParts (splitC 47 r)) := by
  unfold normL; rw [if_pos ⟨by simpa using h, rfl⟩]; rfl
theorem joinC_nil_iff {s : List UInt8} : joinC s = [] ↔ s = [] := by
  cases s with
  | nil => simp [joinC]
  | cons a s => rw [joinC_cons]; simp
theorem joinC_dropLast {s : List UInt8} (h : s ≠ []) : (joinC s).take ((joinC s).length - 2) = joinC s.dropLast := by
  have h1 : 0 < s.length := List.length_pos_iff.2 h
  rw [joinC_len, show 2 * s.length - 2 = 2 * (s.length - 1) from by omega, joinC_take, List.dropLast_eq_take]

set_option maxHeartbeats 2000000 in
theorem specNorm_any (s : ByteArray) (w : World) (hs : s.size ≤ 1048576) : Calls Tryd.prog 23 #[.string s] w (NormOf s.data.toList w) := by
  obtain ⟨i0, hi, hz0, hz1, hz2⟩ := info_parts infoStr
  by_cases h0 : s.size = 0
  · have hz : ((s.size : Int) == 0) = true := by rw [h0]; rfl
    have HN := Lib.hid (norm_head (l := s.data.toList) (by rw [show s.data.toList = [] from List.eq_nil_of_length_eq_zero (by rw [← Lib.size_eq]; exact h0)]; simp))
    clear h0
    go_enter Tryd.func23, Tryd.ntmps23
    go_wp2_with fail
    refine bodyPost_ret (v := .tuple #[.string ⟨#[]⟩, .bool false]) (by simp [results, Tryd.results23, go_sem]) rfl (NormOf.no HN.out (Below.refl _ _))
  have hz : ((s.size : Int) == 0) = false := beq_eq_false_iff_ne.2 (by omega)
  by_cases h40 : 40 < s.size
  · have HN := Lib.hid (norm_long (l := s.data.toList) (by rw [← Lib.size_eq]; exact h40))
    go_enter Tryd.func23, Tryd.ntmps23
    go_wp2_with fail
    refine bodyPost_ret (v := .tuple #[.string ⟨#[]⟩, .bool false]) (by simp [results, Tryd.results23, go_sem]) rfl (NormOf.no HN.out (Below.refl _ _))
  have hp : 0 < s.size := by omega
  rcases text_cases s.data.toList with hl | ⟨b, r, hl, hb⟩ | ⟨r, hl⟩
  · exact absurd (size_is hl) h0
  · have hc : ((s[0].toNat : Int) != 47) = true := byte_ne (show s[0] ≠ 47 by rw [head_is hl hp]; exact hb)
    have HN := Lib.hid (norm_head (l := s.data.toList) (by rw [hl]; simpa using hb))
    clear hl
    go_enter Tryd.func23, Tryd.ntmps23
    go_wp2_with fail
    refine bodyPost_ret (v := .tuple #[.string ⟨#[]⟩, .bool false]) (by simp [results, Tryd.results23, go_sem]) rfl (NormOf.no HN.out (Below.refl _ _))
  · have hc : ((s[0].toNat : Int) != 47) = false := by rw [head_is hl hp]; rfl
    have hrl : r.length + 1 ≤ 40 := by have := size_is hl; simp at this; omega
    have HN := Lib.hid (show normL s.data.toList = endN (normParts (splitC 47 r)) by rw [hl]; exact norm_slash_eq hrl)
    have HR := Lib.hid (show s.data.toList.drop 1 = r by rw [hl]; rfl)
    clear hl
    go_enter Tryd.func23, Tryd.ntmps23
    go_wp2_with fail
    refine (specNames_any s _ hs hp).mono ?_
    rw [HR.out]
    rintro e w1 ⟨ps, A, c, rfl, hps, ho, hb1⟩
    obtain ⟨N, hN⟩ : ∃ N, ps.length = N := ⟨_, rfl⟩
    have HNL := Lib.hid hN
    have at1 := own_at encS_len ho rfl
    rw [hN] at ho ⊢
    have hNb : N ≤ 40 := by
      rw [← hN]; have h2 := congrArg List.length hps; rw [List.length_map, splitC_len] at h2
      have h3 := List.count_le_length (a := (47 : UInt8)) (l := r)
      omega
    have HPS := Lib.hid hps
    clear hN hps ho hrl
    go_wp2_with fail
    go_loop [5, 6] (fun o i => ∃ (k : Nat) (t : ByteArray) (st : List UInt8), i = .int .i64 k ∧ o = .string t ∧ k ≤ N ∧ Hid (t.data.toList = joinC st) ∧ st.length ≤ k ∧ Hid (((ps.map (·.data.toList)).take k).foldl stepN (some []) = some st ∧ ∀ c ∈ st, letterB c = true)) (fun _ i => N - (intOf i).toNat)
    case atStart => exact ⟨0, ⟨#[]⟩, [], rfl, rfl, Nat.zero_le _, Lib.hid rfl, Nat.le_refl _, Lib.hid ⟨rfl, fun c hc => by cases hc⟩⟩
    case round =>
      obtain ⟨k, t, st, rfl, rfl, hk, HT, hst, HF⟩ := hrel
      have htz : t.size = 2 * st.length := by rw [Lib.size_eq, HT.out, joinC_len]
      have ht80 : t.size ≤ 80 := by omega
      have HTZ := Lib.hid htz
      clear htz
      by_cases hlt : k < N
      · have hlk : k < ps.length := by rw [HNL.out]; exact hlt
        have hlk2 : k < (ps.map (·.data.toList)).length := by rw [List.length_map]; exact hlk
        have hidx := fun W => run_index_one (c := c) Tryd.underlying54 hi hz1 (at1.addr (by rw [HNL.out]; omega)) hlt W
        have c1 : w1.cell? ⟨blk A, off A + k, none⟩ = some (.string ps[k]) := at1.cell1 hlk rfl
        obtain ⟨p, hpd⟩ : ∃ p : ByteArray, ps[k] = p := ⟨_, rfl⟩
        have HP := Lib.hid (show (ps.map (·.data.toList))[k] = p.data.toList by rw [List.getElem_map, hpd])
        rw [hpd] at c1
        have HFN := Lib.hid (show ((ps.map (·.data.toList)).take (k + 1)).foldl stepN (some []) = stepN (some st) p.data.toList by rw [fold_next hlk2, HF.out.1, HP.out])
        have HFF := Lib.hid (show stepN (some st) p.data.toList = none → normL s.data.toList = none from fun h => by rw [HN.out, ← HPS.out, fold_fail hlk2 HF.out.1 (by rw [HP.out]; exact h)]; rfl)
        clear hpd
        by_cases h0 : p.data.toList = []
        · have e0 : (p.toList == []) = true := by rw [toList_beq h0]; rfl
          have HX := Lib.hid (HFN.out.trans (stepN_skip (.inl h0)))
          clear h0
          go_wp2_with fail
          go_round
          case rel => exact ⟨k + 1, t, st, by go_num, rfl, by omega, HT, by omega, Lib.hid ⟨HX.out, HF.out.2⟩⟩
          case measure => simp [intOf]; omega
        have e0 : (p.toList == []) = false := by rw [toList_is rfl]; simpa using h0
        by_cases h1 : p.data.toList = [46]
        · have e1 : (p.toList == [46]) = true := by rw [toList_beq h1]; rfl
          have HX := Lib.hid (HFN.out.trans (stepN_skip (.inr h1)))
          clear h0 h1
          go_wp2_with fail
          go_round
          case rel => exact ⟨k + 1, t, st, by go_num, rfl, by omega, HT, by omega, Lib.hid ⟨HX.out, HF.out.2⟩⟩
          case measure => simp [intOf]; omega
        have e1 : (p.toList == [46]) = false := by rw [toList_is rfl]; simpa using h1
        by_cases h2 : p.data.toList = [46, 46]
        · have e2 : (p.toList == [46, 46]) = true := by rw [toList_beq h2]; rfl
          by_cases hst0 : st = []
          · have e3 : (t.toList == []) = true := by rw [toList_is HT.out, hst0]; rfl
            have HX := Lib.hid (HFF.out (by rw [h2, hst0, stepN_up0]))
            clear h0 h1 h2 hst0
            go_wp2_with fail
            refine bodyPost_ret (v := .tuple #[.string ⟨#[]⟩, .bool false]) (by simp [results, Tryd.results23, go_sem]) rfl (NormOf.no HX.out hb1)
          · have e3 : (t.toList == []) = false := by rw [toList_is HT.out]; simpa [joinC_nil_iff] using hst0
            have hz2' : 2 ≤ t.size := by have := List.length_pos_iff.2 hst0; rw [HTZ.out]; omega
            have HX := Lib.hid (HFN.out.trans (show stepN (some st) p.data.toList = some st.dropLast by rw [h2]; exact stepN_up hst0))
            have HD := Lib.hid (show (t.extract 0 (t.size - 2)).data.toList = joinC st.dropLast by rw [Lib.extract_from_zero, Lib.size_eq, HT.out, joinC_dropLast hst0])
            have HL := Lib.hid (show ∀ c ∈ st.dropLast, letterB c = true from fun c hc => HF.out.2 c (List.dropLast_subset _ hc))
            clear h0 h1 h2 hst0
            go_wp2_with fail
            go_round
            case rel => exact ⟨k + 1, _, st.dropLast, by go_num, rfl, by omega, HD, by rw [List.length_dropLast]; omega, Lib.hid ⟨HX.out, HL.out⟩⟩
            case measure => simp [intOf]; omega
        have e2 : (p.toList == [46, 46]) = false := by rw [toList_is rfl]; simpa using h2
        cases hn : nameB p.data.toList with
        | true =>
          have HX := Lib.hid (HFN.out.trans (stepN_name hn))
          obtain ⟨x, hx1, hx2⟩ := nameB_form hn
          have hpz : p.size = 1 := name_size hn
          have HD := Lib.hid (show (t ++ ⟨#[47]⟩ ++ p : ByteArray).data.toList = joinC (st ++ p.data.toList) by
            rw [ByteArray.data_append, ByteArray.data_append, Array.toList_append, Array.toList_append, HT.out, hx1, joinC_append]; simp [joinC])
          have HL := Lib.hid (show ∀ c ∈ st ++ p.data.toList, letterB c = true from fun c hc => by
            rcases List.mem_append.1 hc with hc | hc
            · exact HF.out.2 c hc
            · rw [hx1] at hc; simp at hc; subst hc; exact hx2)
          have HPL := Lib.hid (show p.data.toList.length = 1 by rw [hx1]; rfl)
          have HNM := Lib.hid hn
          clear h0 h1 h2 hn hx1 hx2
          go_wp2_with fail
          refine (specName_any _ _).mono ?_
          rw [HNM.out]
          rintro e w' ⟨rfl, rfl⟩
          go_wp2_with fail
          go_round
          case rel => exact ⟨k + 1, _, st ++ p.data.toList, by go_num, rfl, by omega, HD, by rw [List.length_append, HPL.out]; omega, Lib.hid ⟨HX.out, HL.out⟩⟩
          case measure => simp [intOf]; omega
        | false =>
          have HX := Lib.hid (HFF.out (stepN_bad h0 h1 h2 hn))
          have HNM := Lib.hid hn
          clear h0 h1 h2 hn
          go_wp2_with fail
          refine (specName_any _ _).mono ?_
          rw [HNM.out]
          rintro e w' ⟨rfl, rfl⟩
          go_wp2_with fail
          refine bodyPost_ret (v := .tuple #[.string ⟨#[]⟩, .bool false]) (by simp [results, Tryd.results23, go_sem]) rfl (NormOf.no HX.out hb1)
      · obtain rfl : N = k := by omega
        have hall := HF.out.1
        rw [List.take_of_length_le (by rw [List.length_map, HNL.out]; exact Nat.le_refl _)] at hall
        have HE := Lib.hid (show normL s.data.toList = endN (some st) by rw [HN.out, ← HPS.out]; unfold normParts; rw [hall])
        clear hall
        by_cases hst0 : st = []
        · have e3 : (t.toList == []) = true := by rw [toList_is HT.out, hst0]; rfl
          have HX := Lib.hid (show normL s.data.toList = some (⟨#[47]⟩ : ByteArray).data.toList by rw [HE.out, hst0]; rfl)
          clear hst0
          go_wp2_with fail
          refine (specPath_any ⟨#[47]⟩ _ (by decide)).mono ?_
          rw [show pathB (⟨#[47]⟩ : ByteArray).data.toList = true from rfl]
          rintro e w2 ⟨rfl, hb2⟩
          go_wp2_with fail
          refine bodyPost_ret (v := .tuple #[.string ⟨#[47]⟩, .bool true]) (by simp [results, Tryd.results23, go_sem]) rfl (NormOf.yes HX.out (below_step hb1 hb2))
        · have e3 : (t.toList == []) = false := by rw [toList_is HT.out]; simpa [joinC_nil_iff] using hst0
          have HRO := Lib.hid (show rootOr st = t.data.toList by rw [rootOr_ne hst0, HT.out])
          clear hst0
          cases hpb : pathB t.data.toList with
          | true =>
            have HX := Lib.hid (show normL s.data.toList = some t.data.toList by rw [HE.out]; unfold endN; simp only; rw [HRO.out, if_pos hpb])
            have HB := Lib.hid hpb
            clear hpb
            go_wp2_with fail
            refine (specPath_any t _ (by omega)).mono ?_
            rw [HB.out]
            rintro e w2 ⟨rfl, hb2⟩
            go_wp2_with fail
            refine bodyPost_ret (v := .tuple #[.string t, .bool true]) (by simp [results, Tryd.results23, go_sem]) rfl (NormOf.yes HX.out (below_step hb1 hb2))
          | false =>
            have HX := Lib.hid (show normL s.data.toList = none by rw [HE.out]; unfold endN; simp only; rw [HRO.out, if_neg (by rw [hpb]; simp)])
            have HB := Lib.hid hpb
            clear hpb
            go_wp2_with fail
            refine (specPath_any t _ (by omega)).mono ?_
            rw [HB.out]
            rintro e w2 ⟨rfl, hb2⟩
            go_wp2_with fail
            refine bodyPost_ret (v := .tuple #[.string ⟨#[]⟩, .bool false]) (by simp [results, Tryd.results23, go_sem]) rfl (NormOf.no HX.out (below_step hb1 hb2))
end Go.Proofs.YtokapkpebadcaaaDoor
