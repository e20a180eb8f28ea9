/- The sums of trees, by both texts. -/
import Derived.Test.YtehdoambbeddpaaDoorTreeI
import Derived.Test.YtehdoambbeddpaaDoorAppend
import Derived.Test.YtehdoambbeddpaaDoorMarkT
namespace Go.Proofs.YtehdoambbeddpaaDoor
open Go.RowKit
set_option linter.unusedVariables false
set_option linter.unusedSimpArgs false
set_option maxRecDepth 20000

theorem convL (k : Nat) (hk : k < 4) (cb : UInt8) (hcb : cb = UInt8.ofNat (97 + k)) (W : World) (b : Nat) (hc : W.cell? ⟨b, 0, none⟩ = some (.int .u8 (97 + (k : Int)))) :
    (convert 84 9 (.slice (some ⟨b, 0, none⟩) 1 1)).run Tryd.prog W = .ok (.string ⟨#[cb]⟩) W := by
  have h := conv1 (97 + (k : Int)) (by omega) (by omega) W b hc
  have e : (97 + (k : Int)).toNat = 97 + k := by omega
  rw [e, ← hcb] at h
  exact h
theorem chS_root {s : List UInt8} (h : s = [47]) {k : Nat} {cb : UInt8} (hcb : cb = UInt8.ofNat (97 + k)) : chS s k = [47, cb] := by
  unfold chS; rw [if_pos h, hcb]; rfl
theorem chS_sub {s : List UInt8} (h : s ≠ [47]) {k : Nat} {cb : UInt8} (hcb : cb = UInt8.ofNat (97 + k)) : chS s k = s ++ [47, cb] := by
  unfold chS; rw [if_neg h, hcb]
theorem fold_step {rec : List UInt8 → Int} {l : List Nod} {s : List UInt8} {k : Nat} {acc V : Int} (h : acc = foldS rec l s k) (hV : V = rec (chS s k)) (hg : (getN l (chS s k)).1 ≠ 0) : (31 * acc + 7 * (k : Int) + 100 * V + 3) % 9973 = foldS rec l s (k + 1) := by
  unfold foldS; rw [if_neg hg, h, hV]
theorem fold_skip {rec : List UInt8 → Int} {l : List Nod} {s : List UInt8} {k : Nat} {acc : Int} (h : acc = foldS rec l s k) (hg : (getN l (chS s k)).1 = 0) : acc = foldS rec l s (k + 1) := by
  unfold foldS; rw [if_pos hg, h]

set_option maxHeartbeats 1000000 in
theorem specSum_any : ∀ (f : Nat) (A : Option Addr) (n c : Nat) (l : List Nod) (s : ByteArray) (w : World), n ≤ 1100000 → l.length = n → At encN 3 w A l → TreeP l → pathB s.data.toList = true → 5 ≤ f + s.data.toList.length / 2 →
    Calls Tryd.prog 57 #[.slice A n c, .string s] w fun e w' => e = .returned (.int .i64 (sumN f l s.data.toList)) ∧ Below w.heap.size w w' := by
  intro f
  induction f with
  | zero =>
    intro A n c l s w hn hl ha ht hp hf
    have := (path_len hp).2.1
    omega
  | succ f ih =>
    intro A n c l s w hn hl ha ht hp hf
    have hs8 := (path_len hp).2.1
    have hsz : s.size ≤ 8 := by rw [Lib.size_eq]; exact hs8
    have HL := Lib.hid hl
    have HT := Lib.hid ht
    have IH := Lib.hid ih
    have HF := Lib.hid hf
    have hfl := fieldX
    obtain ⟨X, Y, hXY⟩ : ∃ X Y, getN l s.data.toList = (X, Y) := ⟨_, _, rfl⟩
    have HXY := Lib.hid hXY
    have hbd := okC_bd (show okC X Y = true by have := ht.get_bd s.data.toList; rwa [hXY] at this)
    have HB := Lib.hid (show baseS l s.data.toList = 1 + 200 * X + Y by unfold baseS; rw [hXY])
    clear hl ht ih hf hXY hp hs8
    obtain ⟨hx0, hx2, hy0, hy99⟩ := hbd
    go_enter Tryd.func57, Tryd.ntmps57
    go_wp2_with fail
    refine (specGet_any A n c l s _ (by omega) HL.out ha).mono ?_
    rintro e w1 ⟨x, y, rfl, hxy, hb1⟩
    have h1 : (X, Y) = (x, y) := by rw [← HXY.out, ← hxy]
    injection h1 with h1 h2
    subst h1
    subst h2
    have R0 := Blk.new w1 30 #[.int .i64 X, .int .i64 Y]
    have bw0 := below_alloc hb1 (.cells #[.int .i64 X, .int .i64 Y] 30)
    obtain ⟨W0, hW0⟩ : ∃ W0, W0 = w1.alloc (.cells #[.int .i64 X, .int .i64 Y] 30) := ⟨_, rfl⟩
    obtain ⟨g, hg⟩ : ∃ g, w1.heap.size = g := ⟨_, rfl⟩
    rw [← hW0, hg] at R0
    rw [← hW0] at bw0
    clear hxy
    go_upto_region 4 with fail
    try rw [hg]
    rw [← hW0]
    clear hW0 hg
    by_cases hX : X = 1
    · have HR := Lib.hid (show sumN (f + 1) l s.data.toList = foldS (sumN f l) l s.data.toList 4 from if_pos (by rw [HXY.out]; exact hX))
      have hX' : (X == 1) = true := by simpa using hX
      clear hX
      go_loopw [6, 7] (fun v i wr => ∃ (k : Nat) (acc : Int), i = .int .i64 k ∧ v = .int .i64 acc ∧ k ≤ 4 ∧ 0 ≤ acc ∧ acc ≤ 9972 ∧ Hid (acc = foldS (sumN f l) l s.data.toList k) ∧ Blk wr g 30 #[.int .i64 X, .int .i64 Y] ∧ Below w.heap.size w wr) (fun _ i _ => 4 - (intOf i).toNat)
      case atStart => exact ⟨0, 1 + 200 * X + Y, rfl, rfl, by omega, by omega, by omega, Lib.hid HB.out.symm, R0, bw0⟩
      case round =>
        clear R0 bw0
        obtain ⟨k, acc, rfl, rfl, hk, ha0, ha1, HA, RB, hbw⟩ := hrel
        obtain ⟨r0, r1⟩ := blk2 RB
        by_cases hlt : k < 4
        · have hk4 : decide ((k : Int) < 4) = true := decide_eq_true (by omega)
          obtain ⟨cb, hcb⟩ : ∃ cb : UInt8, cb = UInt8.ofNat (97 + k) := ⟨_, rfl⟩
          have HCB := Lib.hid hcb
          have kc := convL k hlt cb hcb
          have hq1 : ¬ (9223372036854775807 < s.size + 1) := by omega
          have hq2 : ¬ (9223372036854775807 < s.size + 1 + 1) := by omega
          clear hcb
          by_cases hr : s.data.toList = [47]
          all_goals
            first
              | (have hrt : (s.toList == [47]) = true := (by rw [toList_beq hr]; rfl)
                 have HCH := Lib.hid (chS_root hr HCB.out))
              | (have hrt : (s.toList == [47]) = false := (by rw [toList_beq rfl]; exact decide_eq_false hr)
                 have HCH := Lib.hid (chS_sub hr HCB.out))
            have HRR := Lib.hid hr
            clear hr
            go_wp2_with fail
            refine (specGet_any A n c l _ _ (by omega) HL.out (ha.belowS (by first | exact hbw | exact below_alloc hbw _))).mono ?_
            rintro e w2 ⟨x, y, rfl, hxy, hb2⟩
            have bw2 := below_step (by first | exact below_alloc hbw _ | exact hbw) hb2
            have RB2 := (by first | exact (RB.alloc _).belowS hb2 | exact RB.belowS hb2 : Blk w2 g 30 #[.int .i64 X, .int .i64 Y])
            have HG := Lib.hid (show getN l (chS s.data.toList k) = (x, y) by rw [← hxy, HCH.out]; congr 1 <;> simp [ByteArray.data_append])
            clear hxy RB r0 r1
            by_cases hx : x = 0
            · subst hx
              have HN := Lib.hid (fold_skip HA.out (by rw [HG.out]))
              go_wp2_with fail
              go_roundw
              case rel => exact ⟨k + 1, acc, by go_num, rfl, by omega, ha0, ha1, HN, RB2, bw2⟩
              case measure => simp [intOf]; omega
            · have hx' : (x != 0) = true := by simpa using hx
              have hpc : pathB (chS s.data.toList k) = true := HT.out.at_path (chS_ne _ _) (by rw [HG.out]; exact hx)
              have HPC := Lib.hid hpc
              obtain ⟨V, hV⟩ : ∃ V, sumN f l (chS s.data.toList k) = V := ⟨_, rfl⟩
              have hVb := sum_bd HT.out f (chS s.data.toList k)
              rw [hV] at hVb
              obtain ⟨hV0, hV1⟩ := hVb
              have HV := Lib.hid hV
              have HN := Lib.hid (fold_step (k := k) HA.out HV.out.symm (by rw [HG.out]; exact hx))
              have hbN := fold_bd HT.out (sumN f l) s.data.toList (k + 1)
              have htm : (31 * acc + 7 * (k : Int) + 100 * V + 3).tmod 9973 = (31 * acc + 7 * (k : Int) + 100 * V + 3) % 9973 := Int.tmod_eq_emod_of_nonneg (by omega)
              have HBN := Lib.hid hbN
              clear hV hpc hbN hx
              go_wp2_with fail
              have hce : ∀ T : ByteArray, T.data.toList = chS s.data.toList k → Calls Tryd.prog 57 #[.slice A n c, .string T] w2 fun e w' => e = .returned (.int .i64 V) ∧ Below w2.heap.size w2 w' := fun T hT => by
                have := IH.out A n c l T w2 hn HL.out (ha.belowS bw2) HT.out (by rw [hT]; exact HPC.out) (by rw [hT, chS_len]; have := HF.out; omega)
                rw [hT, HV.out] at this
                exact this
              refine (hce _ (by rw [HCH.out]; simp [ByteArray.data_append])).mono ?_
              clear hce
              rintro e w3 ⟨rfl, hb3⟩
              have bw3 := below_step bw2 hb3
              have RB3 := RB2.belowS hb3
              go_wp2_with fail
              go_roundw
              case rel => exact ⟨k + 1, (31 * acc + 7 * (k : Int) + 100 * V + 3) % 9973, by go_num, by first | rfl | (congr 1; omega), by omega, by omega, by omega, HN, RB3, bw3⟩
              case measure => simp [intOf]; omega
        · obtain rfl : k = 4 := by omega
          have hk4 : decide (((4 : Nat) : Int) < 4) = false := rfl
          go_wp2_with fail
          go_ret
          exact ⟨ret_int (by rw [HR.out]; exact HA.out), hbw⟩
    · have HR := Lib.hid (show sumN (f + 1) l s.data.toList = 1 + 200 * X + Y by rw [← HB.out]; exact if_neg (by rw [HXY.out]; exact hX))
      have hX' : (X == 1) = false := by simpa using hX
      clear hX
      go_loopw [6, 7] (fun v i wr => i = .int .i64 0 ∧ v = .int .i64 (1 + 200 * X + Y) ∧ Blk wr g 30 #[.int .i64 X, .int .i64 Y] ∧ Below w.heap.size w wr) (fun _ _ _ => 0)
      case atStart => exact ⟨rfl, rfl, R0, bw0⟩
      case round =>
        clear R0 bw0
        obtain ⟨rfl, rfl, RB, hbw⟩ := hrel
        obtain ⟨r0, r1⟩ := blk2 RB
        go_wp2_with fail
        go_ret
        exact ⟨ret_int HR.out.symm, hbw⟩
end Go.Proofs.YtehdoambbeddpaaDoor
