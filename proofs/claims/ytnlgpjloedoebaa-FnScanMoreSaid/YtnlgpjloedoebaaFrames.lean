/- Bodies and their sums, by both texts: bytes, bodies, sums. These functions only read. -/
import Derived.Test.YtnlgpjloedoebaaProg
import Derived.Test.YtnlgpjloedoebaaContent
import Derived.Test.YtnlgpjloedoebaaInts
namespace Go.Proofs.Ytnlgpjloedoebaa
open Go.RowKit
set_option linter.unusedSimpArgs false

def bytesB (l : List Int) : Bool := l.all fun z => inB z 0 255
def bodyB (l : List Int) : Bool := inB l.length 1 16 && bytesB l
def sumL (l : List Int) : Int := l.foldl (fun n b => (31 * n + b) % 251) 7

theorem bytesB_iff {l : List Int} : bytesB l = true ↔ ∀ z ∈ l, 0 ≤ z ∧ z ≤ 255 := by simp [bytesB, inB]
theorem bodyB_iff {l : List Int} : bodyB l = true ↔ (1 ≤ l.length ∧ l.length ≤ 16) ∧ ∀ z ∈ l, 0 ≤ z ∧ z ≤ 255 := by
  unfold bodyB; rw [Bool.and_eq_true, bytesB_iff]; unfold inB; rw [decide_eq_true_eq]
  constructor <;> rintro ⟨h1, h2⟩ <;> exact ⟨by omega, h2⟩
theorem sumL_bd (l : List Int) : 0 ≤ sumL l ∧ sumL l < 251 := by
  unfold sumL
  suffices h : ∀ (l : List Int) (n : Int), 0 ≤ n → n < 251 → 0 ≤ l.foldl (fun n b => (31 * n + b) % 251) n ∧ l.foldl (fun n b => (31 * n + b) % 251) n < 251 from h l 7 (by omega) (by omega)
  intro l
  induction l with
  | nil => intro n h1 h2; exact ⟨h1, h2⟩
  | cons b l ih => intro n h1 h2; exact ih _ (by show 0 ≤ (31 * n + b) % 251; omega) (by show (31 * n + b) % 251 < 251; omega)
theorem sumL_snoc (l : List Int) (b : Int) : sumL (l ++ [b]) = (31 * sumL l + b) % 251 := by unfold sumL; rw [List.foldl_append]; rfl

def BadAt (l : List Int) (w : World) (e : Ending) (w' : World) : Prop := ∃ r : Int, (e = .returned (.int .i64 r) ∧ decide (0 ≤ r) = !bytesB l) ∧ w = w'

theorem implIsByte_any (z : Int) (w : World) : Calls Try.prog 63 #[.int .i64 z] w fun e w' => e = .returned (.bool (inB z 0 255)) ∧ w = w' := by
  go_enter Try.func63, Try.ntmps63
  go_wp2_with (go_at_call 46; refine (implIn_any _ _ _ _).mono ?_; rintro e w' ⟨rfl, rfl⟩)
  go_ret
  exact ⟨rfl, rfl⟩
theorem implNotByte_any (z : Int) (w : World) : Calls Try.prog 62 #[.int .i64 z] w fun e w' => e = .returned (.bool (!inB z 0 255)) ∧ w = w' := by
  go_enter Try.func62, Try.ntmps62
  go_wp2_with (go_at_call 63; refine (implIsByte_any _ _).mono ?_; rintro e w' ⟨rfl, rfl⟩)
  go_ret
  exact ⟨rfl, rfl⟩

/-- All up to k are bytes; the one at k is, or is not. -/
theorem bytesB_out {l : List Int} {k : Nat} (hk : k < l.length) (h : inB l[k] 0 255 = false) : bytesB l = false := by
  unfold bytesB
  rw [List.all_eq_false]
  exact ⟨l[k], List.getElem_mem _, by rw [h]; simp⟩
theorem bytesB_take {l : List Int} {k : Nat} (hk : k < l.length) (h : inB l[k] 0 255 = true) (ht : bytesB (l.take k) = true) : bytesB (l.take (k + 1)) = true := by
  rw [take_snoc' l k hk]; unfold bytesB at *; rw [List.all_append, ht]; simp [h]

set_option maxHeartbeats 400000 in
theorem indexBad_any (A : Option Addr) (n c : Nat) (l : List Int) (w : World) (hn : n ≤ 140737488355328) (hl : l.length = n) (ha : At encI 1 w A l) :
    Calls Try.prog 64 #[.slice A n c, .func (.func 62) #[] #[]] w (BadAt l w) := by
  obtain ⟨i0, hi, hz0, hz1, hz2⟩ := info_parts infoInt
  have HL := Lib.hid hl
  clear hl
  go_enter Try.func64, Try.ntmps64
  go_wp2
  go_loop [8] (fun i => ∃ k : Nat, i = .int .i64 k ∧ k ≤ n ∧ bytesB (l.take k) = true) (fun i => n - (intOf i).toNat)
  case atStart => exact ⟨0, rfl, Nat.zero_le _, rfl⟩
  case round =>
    obtain ⟨k, rfl, hk, ht⟩ := hrel
    have HT := Lib.hid ht
    clear ht
    by_cases hlt : k < n
    · have hlk : k < l.length := by rw [HL.out]; exact hlt
      have hidx := fun W => run_index_one (c := c) Try.underlying32 hi hz1 (ha.addr (by omega)) hlt W
      have c1 : w.cell? ⟨blk A, off A + k, none⟩ = some (.int .i64 l[k]) := ha.cell1 hlk rfl
      go_wp2_with (go_at_call 62; refine (implNotByte_any _ _).mono ?_; rintro e w' ⟨rfl, rfl⟩)
      · have ht0 : (!inB l[k] 0 255) = true := by assumption
        have ht : inB l[k] 0 255 = false := by simpa using ht0
        go_ret
        exact ⟨k, ⟨rfl, by rw [bytesB_out hlk ht]; simp⟩, rfl⟩
      · have ht0 : (!inB l[k] 0 255) = false := by assumption
        have ht : inB l[k] 0 255 = true := by simpa using ht0
        go_round
        case rel => exact ⟨k + 1, by go_num, by omega, bytesB_take hlk ht HT.out⟩
        case measure => simp [intOf]; omega
    · obtain rfl : n = k := by omega
      have he : bytesB l = true := by
        have := HT.out
        rwa [List.take_of_length_le (by rw [HL.out]; exact Nat.le_refl _)] at this
      have HE := Lib.hid he
      clear he
      go_wp2
      go_ret
      exact ⟨-1, ⟨rfl, by rw [HE.out]; rfl⟩, rfl⟩
theorem containsBad_any (A : Option Addr) (n c : Nat) (l : List Int) (w : World) (hn : n ≤ 140737488355328) (hl : l.length = n) (ha : At encI 1 w A l) :
    Calls Try.prog 61 #[.slice A n c, .func (.func 62) #[] #[]] w fun e w' => e = .returned (.bool (!bytesB l)) ∧ w = w' := by
  go_enter Try.func61, Try.ntmps61
  go_wp2_with fail
  refine (indexBad_any A n c l _ hn hl ha).mono ?_
  rintro e w' ⟨r, ⟨rfl, hr⟩, rfl⟩
  have HR := Lib.hid hr
  clear hr hl
  go_wp2
  go_ret
  exact ⟨ret_bool HR.out, rfl⟩
theorem implBytes_any (A : Option Addr) (n c : Nat) (l : List Int) (w : World) (hn : n ≤ 140737488355328) (hl : l.length = n) (ha : At encI 1 w A l) :
    Calls Try.prog 60 #[.slice A n c] w fun e w' => e = .returned (.bool (bytesB l)) ∧ w = w' := by
  go_enter Try.func60, Try.ntmps60
  go_wp2_with fail
  refine (containsBad_any A n c l _ hn hl ha).mono ?_
  rintro e w' ⟨rfl, rfl⟩
  clear hl
  go_wp2
  go_ret
  exact ⟨ret_bool (by simp), rfl⟩
theorem implBody_any (A : Option Addr) (n c : Nat) (l : List Int) (w : World) (hn : n ≤ 140737488355328) (hl : l.length = n) (ha : At encI 1 w A l) :
    Calls Try.prog 51 #[.slice A n c] w fun e w' => e = .returned (.bool (bodyB l)) ∧ w = w' := by
  subst hl
  by_cases h : inB l.length 1 16 = true
  · have hb : bodyB l = bytesB l := by unfold bodyB; rw [h]; rfl
    have H := Lib.hid hb
    clear hb
    go_enter Try.func51, Try.ntmps51
    go_wp2_with (first | (go_at_call 46; refine (implIn_any _ _ _ _).mono ?_; rintro e w' ⟨rfl, rfl⟩) | (go_at_call 60; refine (implBytes_any _ _ _ l _ hn rfl ha).mono ?_; rintro e w' ⟨rfl, rfl⟩))
    go_ret
    exact ⟨ret_bool H.out.symm, rfl⟩
  · have h' : inB l.length 1 16 = false := by simpa using h
    have hb : bodyB l = false := by unfold bodyB; rw [h']; rfl
    have H := Lib.hid hb
    clear hb h
    go_enter Try.func51, Try.ntmps51
    go_wp2_with (first | (go_at_call 46; refine (implIn_any _ _ _ _).mono ?_; rintro e w' ⟨rfl, rfl⟩) | (go_at_call 60; refine (implBytes_any _ _ _ l _ hn rfl ha).mono ?_; rintro e w' ⟨rfl, rfl⟩))
    go_ret
    exact ⟨ret_bool H.out.symm, rfl⟩

set_option maxHeartbeats 400000 in
theorem specBytes_any (A : Option Addr) (n c : Nat) (l : List Int) (w : World) (hn : n ≤ 140737488355328) (hl : l.length = n) (ha : At encI 1 w A l) :
    Calls Try.prog 59 #[.slice A n c] w fun e w' => e = .returned (.bool (bytesB l)) ∧ w = w' := by
  obtain ⟨i0, hi, hz0, hz1, hz2⟩ := info_parts infoInt
  have HL := Lib.hid hl
  clear hl
  go_enter Try.func59, Try.ntmps59
  go_wp2
  go_loop [3] (fun i => ∃ k : Nat, i = .int .i64 k ∧ k ≤ n ∧ bytesB (l.take k) = true) (fun i => n - (intOf i).toNat)
  case atStart => exact ⟨0, rfl, Nat.zero_le _, rfl⟩
  case round =>
    obtain ⟨k, rfl, hk, ht⟩ := hrel
    have HT := Lib.hid ht
    clear ht
    by_cases hlt : k < n
    · have hlk : k < l.length := by rw [HL.out]; exact hlt
      have hidx := fun W => run_index_one (c := c) Try.underlying32 hi hz1 (ha.addr (by omega)) hlt W
      have c1 : w.cell? ⟨blk A, off A + k, none⟩ = some (.int .i64 l[k]) := ha.cell1 hlk rfl
      go_wp2_with (go_at_call 45; refine (specIn_any _ _ _ _).mono ?_; rintro e w' ⟨rfl, rfl⟩)
      · have ht0 : (!inB l[k] 0 255) = true := by assumption
        have ht : inB l[k] 0 255 = false := by simpa using ht0
        go_ret
        exact ⟨ret_bool (b := false) (bytesB_out hlk ht).symm, rfl⟩
      · have ht0 : (!inB l[k] 0 255) = false := by assumption
        have ht : inB l[k] 0 255 = true := by simpa using ht0
        go_round
        case rel => exact ⟨k + 1, by go_num, by omega, bytesB_take hlk ht HT.out⟩
        case measure => simp [intOf]; omega
    · obtain rfl : n = k := by omega
      have he : bytesB l = true := by
        have := HT.out
        rwa [List.take_of_length_le (by rw [HL.out]; exact Nat.le_refl _)] at this
      have HE := Lib.hid he
      clear he
      go_wp2
      go_ret
      exact ⟨ret_bool (b := true) HE.out.symm, rfl⟩
theorem specBody_any (A : Option Addr) (n c : Nat) (l : List Int) (w : World) (hn : n ≤ 140737488355328) (hl : l.length = n) (ha : At encI 1 w A l) :
    Calls Try.prog 49 #[.slice A n c] w fun e w' => e = .returned (.bool (bodyB l)) ∧ w = w' := by
  subst hl
  by_cases h : bytesB l = true
  · have hb : bodyB l = inB l.length 1 16 := by unfold bodyB; rw [h]; simp
    have H := Lib.hid hb
    clear hb
    go_enter Try.func49, Try.ntmps49
    go_wp2_with (first | (go_at_call 45; refine (specIn_any _ _ _ _).mono ?_; rintro e w' ⟨rfl, rfl⟩) | (go_at_call 59; refine (specBytes_any _ _ _ l _ hn rfl ha).mono ?_; rintro e w' ⟨rfl, rfl⟩))
    go_ret
    exact ⟨ret_bool H.out.symm, rfl⟩
  · have h' : bytesB l = false := by simpa using h
    have hb : bodyB l = false := by unfold bodyB; rw [h']; simp
    have H := Lib.hid hb
    clear hb h
    go_enter Try.func49, Try.ntmps49
    go_wp2_with (first | (go_at_call 45; refine (specIn_any _ _ _ _).mono ?_; rintro e w' ⟨rfl, rfl⟩) | (go_at_call 59; refine (specBytes_any _ _ _ l _ hn rfl ha).mono ?_; rintro e w' ⟨rfl, rfl⟩))
    go_ret
    exact ⟨ret_bool H.out.symm, rfl⟩

theorem sum_step {l : List Int} {k : Nat} (hk : k < l.length) : sumL (l.take (k + 1)) = (31 * sumL (l.take k) + l[k]) % 251 := by rw [take_snoc' l k hk, sumL_snoc]

set_option maxHeartbeats 400000 in
theorem specL4Sum_any (A : Option Addr) (n c : Nat) (l : List Int) (w : World) (hn : n ≤ 140737488355328) (hl : l.length = n) (hb : ∀ z ∈ l, 0 ≤ z ∧ z ≤ 255) (ha : At encI 1 w A l) :
    Calls Try.prog 50 #[.slice A n c] w fun e w' => e = .returned (.int .i64 (sumL l)) ∧ w = w' := by
  obtain ⟨i0, hi, hz0, hz1, hz2⟩ := info_parts infoInt
  have HL := Lib.hid hl
  clear hl
  go_enter Try.func50, Try.ntmps50
  go_wp2
  go_loop [3, 4] (fun s i => ∃ k : Nat, i = .int .i64 k ∧ k ≤ n ∧ s = .int .i64 (sumL (l.take k))) (fun _ i => n - (intOf i).toNat)
  case atStart => exact ⟨0, rfl, Nat.zero_le _, rfl⟩
  case round =>
    obtain ⟨k, rfl, hk, rfl⟩ := hrel
    by_cases hlt : k < n
    · have hlk : k < l.length := by rw [HL.out]; exact hlt
      have hidx := fun W => run_index_one (c := c) Try.underlying32 hi hz1 (ha.addr (by omega)) hlt W
      have c1 : w.cell? ⟨blk A, off A + k, none⟩ = some (.int .i64 l[k]) := ha.cell1 hlk rfl
      have hs := sumL_bd (l.take k)
      have hz := hb l[k] (List.getElem_mem _)
      have HS := Lib.hid (sum_step hlk)
      go_wp2
      go_round
      case rel => exact ⟨k + 1, by go_num, by omega, by rw [HS.out]⟩
      case measure => simp [intOf]; omega
    · obtain rfl : n = k := by omega
      go_wp2
      go_ret
      exact ⟨ret_int (by rw [List.take_of_length_le (by rw [HL.out]; exact Nat.le_refl _)]), rfl⟩

/-- The sum of a body, -1 of what is none. -/
def bsum (l : List Int) : Int := if bodyB l = true then sumL l else -1

set_option maxHeartbeats 400000 in
theorem specBodySum_any (A : Option Addr) (n c : Nat) (l : List Int) (w : World) (hn : n ≤ 140737488355328) (hl : l.length = n) (ha : At encI 1 w A l) :
    Calls Try.prog 22 #[.slice A n c] w fun e w' => e = .returned (.int .i64 (bsum l)) ∧ w = w' := by
  by_cases h : bodyB l = true
  · have HB := Lib.hid (show bsum l = sumL l from if_pos h)
    have hb := (bodyB_iff.1 h).2
    go_enter Try.func22, Try.ntmps22
    go_wp2_with (first | (go_at_call 49; refine (specBody_any _ _ _ l _ hn hl ha).mono ?_; rintro e w' ⟨rfl, rfl⟩) | (go_at_call 50; refine (specL4Sum_any _ _ _ l _ hn hl hb ha).mono ?_; rintro e w' ⟨rfl, rfl⟩))
    go_ret
    exact ⟨ret_int HB.out.symm, rfl⟩
  · have HB := Lib.hid (show bsum l = -1 from if_neg h)
    have h' : bodyB l = false := by simpa using h
    clear h
    go_enter Try.func22, Try.ntmps22
    go_wp2_with (go_at_call 49; refine (specBody_any _ _ _ l _ hn hl ha).mono ?_; rintro e w' ⟨rfl, rfl⟩)
    go_ret
    exact ⟨ret_int HB.out.symm, rfl⟩

set_option maxHeartbeats 400000 in
theorem implBodySum_any (A : Option Addr) (n c : Nat) (l : List Int) (w : World) (hn : n ≤ 140737488355328) (hl : l.length = n) (ha : At encI 1 w A l) :
    Calls Try.prog 24 #[.slice A n c] w fun e w' => e = .returned (.int .i64 (bsum l)) ∧ w = w' := by
  obtain ⟨i0, hi, hz0, hz1, hz2⟩ := info_parts infoInt
  by_cases h : bodyB l = true
  · have HB := Lib.hid (show bsum l = sumL l from if_pos h)
    have hb := (bodyB_iff.1 h).2
    have HL := Lib.hid hl
    clear hl
    go_enter Try.func24, Try.ntmps24
    go_wp2_with (go_at_call 51; refine (implBody_any _ _ _ l _ hn HL.out ha).mono ?_; rintro e w' ⟨rfl, rfl⟩)
    go_loop [3, 11] (fun s i => ∃ k : Nat, i = .int .i64 k ∧ k ≤ n ∧ s = .int .i64 (sumL (l.take k))) (fun _ i => n - (intOf i).toNat)
    case atStart => exact ⟨0, rfl, Nat.zero_le _, rfl⟩
    case round =>
      obtain ⟨k, rfl, hk, rfl⟩ := hrel
      by_cases hlt : k < n
      · have hlk : k < l.length := by rw [HL.out]; exact hlt
        have hidx := fun W => run_index_one (c := c) Try.underlying32 hi hz1 (ha.addr (by omega)) hlt W
        have c1 : w.cell? ⟨blk A, off A + k, none⟩ = some (.int .i64 l[k]) := ha.cell1 hlk rfl
        have hs := sumL_bd (l.take k)
        have hz := hb l[k] (List.getElem_mem _)
        have HS := Lib.hid (sum_step hlk)
        go_wp2
        go_round
        case rel => exact ⟨k + 1, by go_num, by omega, by rw [HS.out]⟩
        case measure => simp [intOf]; omega
      · obtain rfl : n = k := by omega
        go_wp2
        go_ret
        exact ⟨ret_int (by rw [List.take_of_length_le (by rw [HL.out]; exact Nat.le_refl _)]; exact HB.out.symm), rfl⟩
  · have HB := Lib.hid (show bsum l = -1 from if_neg h)
    have h' : bodyB l = false := by simpa using h
    clear h
    go_enter Try.func24, Try.ntmps24
    go_wp2_with (go_at_call 51; refine (implBody_any _ _ _ l _ hn hl ha).mono ?_; rintro e w' ⟨rfl, rfl⟩)
    go_ret
    exact ⟨ret_int HB.out.symm, rfl⟩
end Go.Proofs.Ytnlgpjloedoebaa
