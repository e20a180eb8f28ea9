/- The sums of trees, by the program; both with the tests of the arguments. -/
import Derived.Test.YtehdoambbeddpaaDoorSum
namespace Go.Proofs.YtehdoambbeddpaaDoor
open Go.RowKit
set_option linter.unusedVariables false
set_option linter.unusedSimpArgs false
set_option maxRecDepth 20000

def abcd : List ByteArray := [⟨#[97]⟩, ⟨#[98]⟩, ⟨#[99]⟩, ⟨#[100]⟩]
theorem abcd_get (k : Nat) (h : k < abcd.length) : abcd[k].data.toList = [UInt8.ofNat (97 + k)] := by
  have h4 : k < 4 := h
  match k, h4 with
  | 0, _ => rfl
  | 1, _ => rfl
  | 2, _ => rfl
  | 3, _ => rfl
  | k + 4, h => omega
theorem abcd_size (k : Nat) (h : k < abcd.length) : abcd[k].size = 1 := by rw [Lib.size_eq, abcd_get]; rfl

set_option maxHeartbeats 1000000 in
theorem implSum_any : ∀ (f : Nat) (A : Option Addr) (n c : Nat) (l : List Nod) (s : ByteArray) (w : World), n ≤ 1100000 → l.length = n → At encN 3 w A l → TreeP l → pathB s.data.toList = true → 5 ≤ f + s.data.toList.length / 2 →
    Calls Tryd.prog 58 #[.slice A n c, .string s] w fun e w' => e = .returned (.int .i64 (sumN f l s.data.toList)) ∧ Below w.heap.size w w' := by
  intro f
  induction f with
  | zero =>
    intro A n c l s w hn hl ha ht hp hf
    have := (path_len hp).2.1
    omega
  | succ f ih =>
    intro A n c l s w hn hl ha ht hp hf
    obtain ⟨i0, hi, hz0, hz1, hz2⟩ := info_parts infoStr
    have hs8 := (path_len hp).2.1
    have hsz : s.size ≤ 8 := by rw [Lib.size_eq]; exact hs8
    have HL := Lib.hid hl
    have HT := Lib.hid ht
    have IH := Lib.hid ih
    have HF := Lib.hid hf
    obtain ⟨X, Y, hXY⟩ : ∃ X Y, getN l s.data.toList = (X, Y) := ⟨_, _, rfl⟩
    have HXY := Lib.hid hXY
    have hbd := okC_bd (show okC X Y = true by have := ht.get_bd s.data.toList; rwa [hXY] at this)
    have HB := Lib.hid (show baseS l s.data.toList = 1 + 200 * X + Y by unfold baseS; rw [hXY])
    clear hl ht ih hf hXY hp hs8
    obtain ⟨hx0, hx2, hy0, hy99⟩ := hbd
    go_enter Tryd.func58, Tryd.ntmps58
    go_wp2_with fail
    refine (implGet_any A n c l s _ (by omega) HL.out ha).mono ?_
    rintro e w1 ⟨x, y, rfl, hxy, hb1⟩
    have h1 : (X, Y) = (x, y) := by rw [← HXY.out, ← hxy]
    injection h1 with h1 h2
    subst h1
    subst h2
    have bw0 := below_alloc hb1 (.cells #[.int .i64 X, .int .i64 Y] 30)
    clear hxy
    by_cases hX : X = 1
    case neg =>
      have HR := Lib.hid (show sumN (f + 1) l s.data.toList = 1 + 200 * X + Y by rw [← HB.out]; exact if_neg (by rw [HXY.out]; exact hX))
      have hX' : (X != 1) = true := by simpa using hX
      clear hX
      go_wp2_with fail
      go_ret
      exact ⟨ret_int HR.out.symm, bw0⟩
    case pos =>
      have HR := Lib.hid (show sumN (f + 1) l s.data.toList = foldS (sumN f l) l s.data.toList 4 from if_pos (by rw [HXY.out]; exact hX))
      have hX' : (X != 1) = false := by simpa using hX
      clear hX
      by_cases hr : s.data.toList = [47]
      all_goals
        first
          | (have hrt : (s.toList == [47]) = true := (by rw [toList_beq hr]; rfl)
             have HCH := Lib.hid (fun (k : Nat) (cb : UInt8) (h : cb = UInt8.ofNat (97 + k)) => show chS s.data.toList k = [47, cb] from chS_root hr h))
          | (have hrt : (s.toList == [47]) = false := (by rw [toList_beq rfl]; exact decide_eq_false hr)
             have HCH := Lib.hid (fun (k : Nat) (cb : UInt8) (h : cb = UInt8.ofNat (97 + k)) => show chS s.data.toList k = s.data.toList ++ [47, cb] from chS_sub hr h))
        clear hr
        go_upto_region 9 with fail
        have hnew := at_new (w1.alloc (.cells #[.int .i64 X, .int .i64 Y] 30)) encS_len abcd 9 #[.string ⟨#[97]⟩, .string ⟨#[98]⟩, .string ⟨#[99]⟩, .string ⟨#[100]⟩] rfl (by unfold maxLen abcd; simp)
        have bw00 := below_alloc bw0 (.cells #[.string ⟨#[97]⟩, .string ⟨#[98]⟩, .string ⟨#[99]⟩, .string ⟨#[100]⟩] 9)
        obtain ⟨W0, hW0⟩ : ∃ W0, W0 = (w1.alloc (.cells #[.int .i64 X, .int .i64 Y] 30)).alloc (.cells #[.string ⟨#[97]⟩, .string ⟨#[98]⟩, .string ⟨#[99]⟩, .string ⟨#[100]⟩] 9) := ⟨_, rfl⟩
        rw [World.size_alloc] at hnew
        obtain ⟨h, hh⟩ : ∃ h, w1.heap.size + 1 = h := ⟨_, rfl⟩
        rw [← hW0, hh] at hnew
        rw [← hW0] at bw00
        try rw [hh]
        rw [← hW0]
        clear hW0 hh bw0
        go_loopw [6, 30] (fun v i wr => ∃ (k : Nat) (acc : Int), i = .int .i64 k ∧ v = .int .i64 acc ∧ k ≤ 4 ∧ 0 ≤ acc ∧ acc ≤ 9972 ∧ Hid (acc = foldS (sumN f l) l s.data.toList k) ∧ At encS 1 wr (some ⟨h, 0, none⟩) abcd ∧ Below w.heap.size w wr) (fun _ i _ => 4 - (intOf i).toNat)
        case atStart => exact ⟨0, 1 + 200 * X + Y, rfl, rfl, by omega, by omega, by omega, Lib.hid HB.out.symm, hnew, bw00⟩
        case round =>
          clear hnew bw00
          obtain ⟨k, acc, rfl, rfl, hk, ha0, ha1, HA, AB, hbw⟩ := hrel
          by_cases hlt : k < 4
          · have hk4 : decide ((k : Int) < 4) = true := decide_eq_true (by omega)
            have hlk : k < abcd.length := hlt
            have hidx := fun W => run_index_one (c := 4) (n := 4) (A := some ⟨h, 0, none⟩) Tryd.underlying35 hi hz1 rfl hlt W
            simp only [off_some, blk_some, Nat.zero_add] at hidx
            obtain ⟨nm, hnm⟩ : ∃ nm, abcd[k] = nm := ⟨_, rfl⟩
            have HNM := Lib.hid (show nm.data.toList = [UInt8.ofNat (97 + k)] by rw [← hnm]; exact abcd_get k hlk)
            have hns : nm.size = 1 := by rw [← hnm]; exact abcd_size k hlk
            have c0 := AB.cell1 hlk (u := .string nm) (by rw [hnm]; rfl)
            simp only [off_some, blk_some, Nat.zero_add] at c0
            have hq1 : ¬ (9223372036854775807 < s.size + 1) := by omega
            have hq2 : ¬ (9223372036854775807 < s.size + 1 + nm.size) := by omega
            have hq3 : ¬ (9223372036854775807 < 1 + nm.size) := by omega
            clear hnm
            go_wp2_with fail
            refine (implFind_any A n c l _ _ (by omega) HL.out (ha.belowS hbw)).mono ?_
            rintro e w2 ⟨rfl, hb2⟩
            have bw2 := below_step hbw hb2
            have AB2 := AB.belowS hb2
            have hce0 : ∀ T : ByteArray, T.data.toList = s.data.toList ++ [47] ++ nm.data.toList ∨ T.data.toList = [47] ++ nm.data.toList → (s.toList == [47]) = true ∨ True := fun _ _ => .inr trivial
            have HCC := Lib.hid (HCH.out k _ rfl)
            obtain ⟨T, hT⟩ : ∃ T : ByteArray, T.data.toList = chS s.data.toList k := ⟨⟨(chS s.data.toList k).toArray⟩, by simp⟩
            clear hce0 AB c0
            have e2 : ∀ U : ByteArray, U.data.toList = chS s.data.toList k → posI l U.data.toList = posI l (chS s.data.toList k) := fun U hU => by rw [hU]
            rw [e2 _ (by rw [HCC.out]; simp [ByteArray.data_append, HNM.out])]
            clear e2
            obtain ⟨z, hz⟩ : ∃ z, posI l (chS s.data.toList k) = z := ⟨_, rfl⟩
            rw [hz]
            by_cases hg : (getN l (chS s.data.toList k)).1 = 0
            · have hzn : z = -1 := by
                rw [← hz]
                refine posI_none ?_
                by_cases hp : posN l (chS s.data.toList k) = none
                · exact hp
                · exact absurd hg ((HT.out.get_pos (chS_ne _ _)).2 hp)
              have HN := Lib.hid (fold_skip HA.out hg)
              clear hz hT
              subst hzn
              clear hg
              go_wp2_with fail
              go_roundw
              case rel => exact ⟨k + 1, acc, by go_num, rfl, by omega, ha0, ha1, HN, AB2, bw2⟩
              case measure => simp [intOf]; omega
            · have hz0' : 0 ≤ z := by
                rw [← hz]
                cases hp : posN l (chS s.data.toList k) with
                | none => exact absurd hp ((HT.out.get_pos (chS_ne _ _)).1 hg)
                | some j => rw [posI_some hp]; omega
              have hzd : decide (0 ≤ z) = true := decide_eq_true hz0'
              have hpc : pathB (chS s.data.toList k) = true := HT.out.at_path (chS_ne _ _) hg
              have HPC := Lib.hid hpc
              obtain ⟨V, hV⟩ : ∃ V, sumN f l (chS s.data.toList k) = V := ⟨_, rfl⟩
              have hVb := sum_bd HT.out f (chS s.data.toList k)
              rw [hV] at hVb
              obtain ⟨hV0, hV1⟩ := hVb
              have HV := Lib.hid hV
              have HN := Lib.hid (fold_step (k := k) HA.out HV.out.symm hg)
              have htm : (31 * acc + 7 * (k : Int) + 100 * V + 3).tmod 9973 = (31 * acc + 7 * (k : Int) + 100 * V + 3) % 9973 := Int.tmod_eq_emod_of_nonneg (by omega)
              clear hV hpc hg hz hT
              go_wp2_with fail
              have hce : ∀ T : ByteArray, T.data.toList = chS s.data.toList k → Calls Tryd.prog 58 #[.slice A n c, .string T] w2 fun e w' => e = .returned (.int .i64 V) ∧ Below w2.heap.size w2 w' := fun T hT => by
                have := IH.out A n c l T w2 hn HL.out (ha.belowS bw2) HT.out (by rw [hT]; exact HPC.out) (by rw [hT, chS_len]; have := HF.out; omega)
                rw [hT, HV.out] at this
                exact this
              refine (hce _ (by rw [HCC.out]; simp [ByteArray.data_append, HNM.out])).mono ?_
              clear hce
              rintro e w3 ⟨rfl, hb3⟩
              have bw3 := below_step bw2 hb3
              have AB3 := AB2.belowS hb3
              go_wp2_with fail
              go_roundw
              case rel => exact ⟨k + 1, (31 * acc + 7 * (k : Int) + 100 * V + 3) % 9973, by go_num, by first | rfl | (congr 1; omega), by omega, by omega, by omega, HN, AB3, bw3⟩
              case measure => simp [intOf]; omega
          · obtain rfl : k = 4 := by omega
            have hk4 : decide (((4 : Nat) : Int) < 4) = false := rfl
            go_wp2_with fail
            go_ret
            exact ⟨ret_int (by rw [HR.out]; exact HA.out), hbw⟩

/-- What TreeSum answers. -/
def TsR (l : List Nod) (s : List UInt8) (z : Int) : Prop := (TreeP l ∧ pathB s = true) ∧ z = sumN 5 l s ∨ ¬ (TreeP l ∧ pathB s = true) ∧ z = -1
theorem TsR.same {l : List Nod} {s : List UInt8} {z a : Int} (h : TsR l s z) (k : TsR l s a) : z = a := by
  rcases h with ⟨h, rfl⟩ | ⟨h, rfl⟩ <;> rcases k with ⟨k, rfl⟩ | ⟨k, rfl⟩
  · rfl
  · exact absurd h k
  · exact absurd k h
  · rfl
def TsOf (l : List Nod) (s : List UInt8) (w : World) (e : Ending) (w' : World) : Prop := ∃ z : Int, e = .returned (.int .i64 z) ∧ TsR l s z ∧ Below w.heap.size w w'

set_option maxHeartbeats 1000000 in
theorem specTreeSum_any (A : Option Addr) (n c : Nat) (l : List Nod) (s : ByteArray) (w : World) (hn : n ≤ 1100000) (hl : l.length = n) (ha : At encN 3 w A l) (hz : ∀ q ∈ l, q.p.size ≤ 1048576) (hs : s.size ≤ 1048576) :
    Calls Tryd.prog 19 #[.slice A n c, .string s] w (TsOf l s.data.toList w) := by
  have HL := Lib.hid hl

  clear hl
  obtain ⟨k, hk⟩ : ∃ k, pathB s.data.toList = k := ⟨_, rfl⟩
  have HK := Lib.hid hk
  clear hk
  go_enter Tryd.func19, Tryd.ntmps19
  go_wp2_with fail
  refine (specTree_any A n c l _ hn HL.out ha hz).mono ?_
  rintro e w1 ⟨b, rfl, hb, hb1⟩
  have HB := Lib.hid hb
  clear hb
  cases b with
  | false =>
    have HN := Lib.hid (show ¬ (TreeP l ∧ pathB s.data.toList = true) from fun h => by have := HB.out.2 h.1; cases this)
    go_wp2_with fail
    go_ret
    exact ⟨-1, rfl, .inr ⟨HN.out, rfl⟩, hb1⟩
  | true =>
    go_wp2_with fail
    refine (specPath_any s _ hs).mono ?_
    rw [HK.out]
    rintro e w2 ⟨rfl, hb2⟩
    have bw2 := below_step hb1 hb2
    cases k with
    | false =>
      have HN := Lib.hid (show ¬ (TreeP l ∧ pathB s.data.toList = true) from fun h => by have := h.2; rw [HK.out] at this; cases this)
      go_wp2_with fail
      go_ret
      exact ⟨-1, rfl, .inr ⟨HN.out, rfl⟩, bw2⟩
    | true =>
      have HTT := Lib.hid (HB.out.1 (by first | rfl | trivial))
      obtain ⟨V, hV⟩ : ∃ V, sumN 5 l s.data.toList = V := ⟨_, rfl⟩
      have HV := Lib.hid hV
      clear hV
      go_wp2_with fail
      refine (specSum_any 5 A n c l s _ hn HL.out (ha.belowS bw2) HTT.out HK.out (by omega)).mono ?_
      rw [HV.out]
      rintro e w3 ⟨rfl, hb3⟩
      have bw3 := below_step bw2 hb3
      go_wp2_with fail
      go_ret
      exact ⟨_, rfl, .inl ⟨⟨HTT.out, HK.out⟩, HV.out.symm⟩, bw3⟩

set_option maxHeartbeats 1000000 in
theorem implTreeSum_any (A : Option Addr) (n c : Nat) (l : List Nod) (s : ByteArray) (w : World) (hn : n ≤ 1100000) (hl : l.length = n) (ha : At encN 3 w A l) (hz : ∀ q ∈ l, q.p.size ≤ 1048576) (hs : s.size ≤ 1048576) (hm : MaxAt w) :
    Calls Tryd.prog 20 #[.slice A n c, .string s] w (TsOf l s.data.toList w) := by
  have HL := Lib.hid hl
  have HM := Lib.hid hm
  clear hl
  obtain ⟨k, hk⟩ : ∃ k, pathB s.data.toList = k := ⟨_, rfl⟩
  have HK := Lib.hid hk
  clear hk
  go_enter Tryd.func20, Tryd.ntmps20
  go_wp2_with fail
  refine (implTree_any A n c l _ hn HL.out ha hz HM.out).mono ?_
  rintro e w1 ⟨b, rfl, hb, hb1⟩
  have HB := Lib.hid hb
  clear hb
  cases b with
  | false =>
    have HN := Lib.hid (show ¬ (TreeP l ∧ pathB s.data.toList = true) from fun h => by have := HB.out.2 h.1; cases this)
    go_wp2_with fail
    go_ret
    exact ⟨-1, rfl, .inr ⟨HN.out, rfl⟩, hb1⟩
  | true =>
    go_wp2_with fail
    refine (implPath_any s _ hs (HM.out.belowS hb1)).mono ?_
    rw [HK.out]
    rintro e w2 ⟨rfl, hb2⟩
    have bw2 := below_step hb1 hb2
    cases k with
    | false =>
      have HN := Lib.hid (show ¬ (TreeP l ∧ pathB s.data.toList = true) from fun h => by have := h.2; rw [HK.out] at this; cases this)
      go_wp2_with fail
      go_ret
      exact ⟨-1, rfl, .inr ⟨HN.out, rfl⟩, bw2⟩
    | true =>
      have HTT := Lib.hid (HB.out.1 (by first | rfl | trivial))
      obtain ⟨V, hV⟩ : ∃ V, sumN 5 l s.data.toList = V := ⟨_, rfl⟩
      have HV := Lib.hid hV
      clear hV
      go_wp2_with fail
      refine (implSum_any 5 A n c l s _ hn HL.out (ha.belowS bw2) HTT.out HK.out (by omega)).mono ?_
      rw [HV.out]
      rintro e w3 ⟨rfl, hb3⟩
      have bw3 := below_step bw2 hb3
      go_wp2_with fail
      go_ret
      exact ⟨_, rfl, .inl ⟨⟨HTT.out, HK.out⟩, HV.out.symm⟩, bw3⟩
end Go.Proofs.YtehdoambbeddpaaDoor
