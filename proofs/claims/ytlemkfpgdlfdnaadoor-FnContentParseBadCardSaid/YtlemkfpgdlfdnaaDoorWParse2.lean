/- The walk of the law on a text of a content that is read. -/
import Derived.Test.YtlemkfpgdlfdnaaDoorWParse
namespace Go.Proofs.YtlemkfpgdlfdnaaDoor
open Go.RowKit
set_option linter.unusedVariables false
set_option linter.unusedSimpArgs false

set_option maxHeartbeats 1000000 in
theorem walk_FnContentText (A0 : Option Addr) (n0 c0 : Nat) (l0 : List Int) (hl0 : l0.length = n0) (hnc0 : n0 ≤ c0) (hcm0 : c0 ≤ maxLen) (w : World) (ha0 : At encU 1 w A0 l0) (hw0 : ∀ u ∈ l0, (Lit.int .u8 u).wf = true) :
    Calls Tryd.prog 9 #[.slice A0 n0 c0] w fun e w' => e = .returned (.bool true) ∧ Below w.heap.size w w' := by
  have H0 := Lib.hid hl0
  clear hl0
  unfold maxLen at hcm0
  by_cases hb0 : 1048576 < n0
  · go_enter Tryd.func9, Tryd.ntmps9
    go_wp2
    go_ret
    exact ⟨rfl, Below.refl _ _⟩
  go_enter Tryd.func9, Tryd.ntmps9
  go_wp2_with fail
  refine (drawText_any A0 n0 c0 l0 _ H0.out hnc0 ha0 (u8_bdT hw0) (by omega)).mono ?_
  rintro e w1 ⟨x, y, rfl, hx, hy, bw1⟩
  go_wp2_with fail
  refine (implText_any x y _).mono ?_
  rintro e w2 ⟨s, rfl, hs, hsz, hb2⟩
  have B2 := (Blk.new w1 25 #[.int .i64 x, .int .i64 y]).belowS hb2
  have bw2 := below_step (below_alloc bw1 _) hb2
  have c20 := B2.cell 0
  have c21 := B2.cell 1
  simp only [List.getElem?_toArray, List.getElem?_cons_zero, List.getElem?_cons_succ] at c20 c21
  have HS := Lib.hid hs
  clear hs
  go_wp2_with fail
  refine (specText_any x y _).mono ?_
  rintro e w3 ⟨t, rfl, ht, htz, hb3⟩
  have B3 := B2.belowS hb3
  have bw3 := below_step bw2 hb3
  clear c20 c21
  have c30 := B3.cell 0
  have c31 := B3.cell 1
  simp only [List.getElem?_toArray, List.getElem?_cons_zero, List.getElem?_cons_succ] at c30 c31
  have hxe : (s.toList == t.toList) = true := by rw [toList_is ht, toList_is HS.out]; simp
  have hx0 : (s.toList == []) = !okC x y := by rw [toList_is HS.out]; exact textC_empty x y
  have HT := Lib.hid ht
  clear ht
  have ht0 : (t.toList == []) = !okC x y := by rw [toList_is HT.out]; exact textC_empty x y
  cases hok : okC x y with
  | false =>
    rw [hok] at hx0 ht0
    clear hok
    go_wp2_with fail
    go_ret
    exact ⟨rfl, bw3⟩
  | true =>
    rw [hok] at hx0 ht0
    have HOK := Lib.hid hok
    have HP := Lib.hid (parse_hit (l := textC x y) (by intro h; have := textC_empty x y; rw [hok, h] at this; cases this) rfl)
    clear hok
    go_wp2_with fail
    refine (implParse_any s _).mono ?_
    rw [HS.out]
    rintro e w4 ⟨x4, y4, b4, rfl, h4, hb4⟩
    obtain ⟨rfl, rfl, rfl⟩ : x4 = x ∧ y4 = y ∧ b4 = true := by have := h4.symm.trans HP.out; simpa using this
    clear h4
    have B4 := B3.belowS hb4
    have bw4 := below_step bw3 hb4
    clear c30 c31
    obtain ⟨c40, c41, f40, f41⟩ := blk2 B4
    have hz4 := B4.lt
    go_wp2_with fail
    refine (implContentValid_any x4 y4 _).mono ?_
    rw [HOK.out]
    rintro e w5 ⟨rfl, hb5⟩
    have bw5 := below_step (below_alloc bw4 _) hb5
    go_wp2_with fail
    go_ret
    exact ⟨rfl, bw5⟩

theorem parse_text {l : List UInt8} {x y : Int} (h : parseR l = (x, y, true)) : textC x y = l ∧ (x = 2 → ∃ v : Nat, v < 100 ∧ l = 102 :: Lib.decDigits v) ∧ (l = [45] ∨ l = [100] ∨ ∃ v : Nat, v < 100 ∧ l = 102 :: Lib.decDigits v) := by
  unfold parseR at h
  split at h
  · rename_i h1
    injection h with h2 h; injection h with h3 h
    subst h1 h2 h3
    exact ⟨rfl, fun h => (by cases h), .inl rfl⟩
  · split at h
    · rename_i _ h1
      injection h with h2 h; injection h with h3 h
      subst h1 h2 h3
      exact ⟨rfl, fun h => (by cases h), .inr (.inl rfl)⟩
    · split at h
      · rename_i _ _ u hu
        injection h with h2 h; injection h with h3 h
        subst h2 h3
        have h4 := List.find?_some hu
        rw [beq_iff_eq] at h4
        have h5 := List.mem_range.1 (List.mem_of_find?_eq_some hu)
        exact ⟨(text_file h5).trans h4, fun _ => ⟨u, h5, h4.symm⟩, .inr (.inr ⟨u, h5, h4.symm⟩)⟩
      · injection h with h2 h; injection h with h3 h; cases h
theorem dec_head {v : Nat} : ∃ b t, Lib.decDigits v = b :: t ∧ (b = 48 → v = 0) := by
  induction v using Nat.strongRecOn with
  | ind v ih =>
    unfold Lib.decDigits
    by_cases h : v < 10
    · rw [dif_pos h]
      refine ⟨_, _, rfl, fun hb => ?_⟩
      have := congrArg UInt8.toNat hb
      rw [UInt8.toNat_ofNat_of_lt' (by show 48 + v < 256; omega)] at this
      have e : (48 : UInt8).toNat = 48 := rfl
      omega
    · rw [dif_neg h]
      obtain ⟨b, t, h1, h2⟩ := ih (v / 10) (by omega)
      rw [h1]
      refine ⟨b, _, rfl, fun hb => ?_⟩
      have := h2 hb
      omega
theorem dec_bytes : ∀ (n v : Nat), v ≤ n → ∀ b ∈ Lib.decDigits v, 48 ≤ b.toNat
  | n, v, h => by
    unfold Lib.decDigits
    by_cases h10 : v < 10
    · rw [dif_pos h10]
      intro b hb
      simp only [List.mem_singleton] at hb
      subst hb
      rw [UInt8.toNat_ofNat_of_lt' (by show 48 + v < 256; omega)]; omega
    · rw [dif_neg h10]
      intro b hb
      rcases List.mem_append.1 hb with hb | hb
      · cases n with
        | zero => omega
        | succ n => exact dec_bytes n (v / 10) (by omega) b hb
      · simp only [List.mem_singleton] at hb
        subst hb
        rw [UInt8.toNat_ofNat_of_lt' (by show 48 + v % 10 < 256; omega)]; omega
/-- A text with a zero put in front of its number is read as no content. -/
theorem parse_zero {l : List UInt8} {y : Int} (h : parseR l = (2, y, true)) : ∃ x' y', parseR (102 :: 48 :: l.drop 1) = (x', y', false) := by
  obtain ⟨_, h2, _⟩ := parse_text h
  obtain ⟨v, hv, rfl⟩ := h2 rfl
  refine ⟨0, 0, parse_none (by intro h; injection h with h _; exact absurd h (by decide)) (by intro h; injection h with h _; exact absurd h (by decide)) fun u hu he => ?_⟩
  injection he with _ he
  simp only [List.drop_succ_cons, List.drop_zero] at he
  obtain ⟨b, t, h3, h4⟩ := dec_head (v := u)
  rw [h3] at he
  injection he with hb ht
  have h5 := h4 hb
  subst h5
  unfold Lib.decDigits at h3
  rw [dif_pos (by omega)] at h3
  injection h3 with _ h3
  obtain ⟨b2, t2, h6, _⟩ := dec_head (v := v)
  rw [h6] at ht
  rw [← h3] at ht
  cases ht
/-- A text with a blank behind it is read as no content. -/
theorem parse_blank (l : List UInt8) : ∃ x' y', parseR (l ++ [32]) = (x', y', false) := by
  refine ⟨0, 0, parse_none ?_ ?_ fun u hu he => ?_⟩
  · intro h
    have := congrArg List.getLast? h
    simp at this
  · intro h
    have := congrArg List.getLast? h
    simp at this
  · have h1 := congrArg List.getLast? he
    rw [List.getLast?_append] at h1
    simp only [List.getLast?_singleton, Option.some_or] at h1
    have h2 := List.mem_of_getLast? h1
    rcases List.mem_cons.1 h2 with h2 | h2
    · exact absurd h2 (by decide)
    · have := dec_bytes u u (Nat.le_refl _) 32 h2
      exact absurd this (by decide)

theorem walk_FnContentParse (A0 : Option Addr) (n0 c0 : Nat) (l0 : List Int) (hl0 : l0.length = n0) (hnc0 : n0 ≤ c0) (hcm0 : c0 ≤ maxLen) (w : World) (ha0 : At encU 1 w A0 l0) (hw0 : ∀ u ∈ l0, (Lit.int .u8 u).wf = true) :
    Calls Tryd.prog 13 #[.slice A0 n0 c0] w fun e w' => e = .returned (.bool true) ∧ Below w.heap.size w w' := by
  have H0 := Lib.hid hl0
  clear hl0
  unfold maxLen at hcm0
  by_cases hb0 : 1048576 < n0
  · go_enter Tryd.func13, Tryd.ntmps13
    go_wp2
    go_ret
    exact ⟨rfl, Below.refl _ _⟩
  go_enter Tryd.func13, Tryd.ntmps13
  go_wp2_with fail
  refine (drawParse_any A0 n0 c0 l0 _ H0.out hnc0 ha0 (u8_bd' hw0) (by omega)).mono ?_
  rintro e w1 ⟨s, rfl, hsz, bw1⟩
  obtain ⟨x, y, b, hp⟩ : ∃ x y b, parseR s.data.toList = (x, y, b) := ⟨_, _, _, rfl⟩
  have HP := Lib.hid hp
  clear hp
  go_wp2_with fail
  refine (implParse_any s _).mono ?_
  rintro e w2 ⟨x1, y1, b1, rfl, h1, hb2⟩
  obtain ⟨rfl, rfl, rfl⟩ : x1 = x ∧ y1 = y ∧ b1 = b := by have := h1.symm.trans HP.out; simpa using this
  clear h1
  have bw2 := below_step bw1 hb2
  go_wp2_with fail
  refine (specParse_any s _).mono ?_
  rintro e w3 ⟨x2, y2, b2, rfl, h2, hb3⟩
  obtain ⟨rfl, rfl, rfl⟩ : x2 = x1 ∧ y2 = y1 ∧ b2 = b1 := by have := h2.symm.trans HP.out; simpa using this
  clear h2
  have B3 := (Blk.new w2 25 #[.int .i64 x2, .int .i64 y2]).belowS hb3
  have bw3 := below_step (below_alloc bw2 _) hb3
  obtain ⟨c0', c1', f0', f1'⟩ := blk2 B3
  have hz := B3.lt
  have hne : w2.heap.size ≠ w3.heap.size := by omega
  have hbb : (b2 != b2) = false := by simp
  clear hb2 hb3
  cases b2 with
  | false =>
    go_wp2_with fail
    go_ret
    exact ⟨rfl, below_alloc bw3 _⟩
  | true =>
    have HT := Lib.hid (parse_text HP.out).1
    go_wp2_with fail
    refine (implText_any x2 y2 _).mono ?_
    rintro e w4 ⟨t, rfl, ht, htz, hb4⟩
    have bw4 := below_step (below_alloc bw3 _) hb4
    have hx : (t.toList == s.toList) = true := by rw [toList_is ht, toList_is HT.out.symm]; simp
    clear ht
    go_wp2_with fail
    go_ret
    exact ⟨rfl, bw4⟩

set_option maxHeartbeats 1000000 in
theorem walk_FnContentParseBad (A0 : Option Addr) (n0 c0 : Nat) (l0 : List Int) (hl0 : l0.length = n0) (hnc0 : n0 ≤ c0) (hcm0 : c0 ≤ maxLen) (w : World) (ha0 : At encU 1 w A0 l0) (hw0 : ∀ u ∈ l0, (Lit.int .u8 u).wf = true) :
    Calls Tryd.prog 14 #[.slice A0 n0 c0] w fun e w' => e = .returned (.bool true) ∧ Below w.heap.size w w' := by
  have H0 := Lib.hid hl0
  clear hl0
  unfold maxLen at hcm0
  by_cases hb0 : 1048576 < n0
  · go_enter Tryd.func14, Tryd.ntmps14
    go_wp2
    go_ret
    exact ⟨rfl, Below.refl _ _⟩
  go_enter Tryd.func14, Tryd.ntmps14
  go_wp2_with fail
  refine (drawParse_any A0 n0 c0 l0 _ H0.out hnc0 ha0 (u8_bd' hw0) (by omega)).mono ?_
  rintro e w1 ⟨s, rfl, hsz, bw1⟩
  obtain ⟨x, y, b, hp⟩ : ∃ x y b, parseR s.data.toList = (x, y, b) := ⟨_, _, _, rfl⟩
  have HP := Lib.hid hp
  clear hp
  go_wp2_with fail
  refine (implParse_any s _).mono ?_
  rintro e w2 ⟨x1, y1, b1, rfl, h1, hb2⟩
  obtain ⟨rfl, rfl, rfl⟩ : x1 = x ∧ y1 = y ∧ b1 = b := by have := h1.symm.trans HP.out; simpa using this
  clear h1
  have bw2 := below_step bw1 hb2
  go_wp2_with fail
  refine (specParse_any s _).mono ?_
  rintro e w3 ⟨x2, y2, b2, rfl, h2, hb3⟩
  obtain ⟨rfl, rfl, rfl⟩ : x2 = x1 ∧ y2 = y1 ∧ b2 = b1 := by have := h2.symm.trans HP.out; simpa using this
  clear h2
  have B3 := (Blk.new w2 25 #[.int .i64 x2, .int .i64 y2]).belowS hb3
  have bw3 := below_step (below_alloc bw2 _) hb3
  obtain ⟨c0', c1', f0', f1'⟩ := blk2 B3
  have hz := B3.lt
  have hne : w2.heap.size ≠ w3.heap.size := by omega
  have hbb : (b2 != b2) = false := by simp
  clear hb2 hb3
  cases b2 with
  | false =>
    go_wp2_with fail
    go_ret
    exact ⟨rfl, below_alloc bw3 _⟩
  | true =>
    have h1s : 1 ≤ s.size := by
      rw [Lib.size_eq]
      rcases (parse_text HP.out).2.2 with h | h | ⟨v, _, h⟩ <;> rw [h] <;> simp
    obtain ⟨xb, yb, hpb⟩ := parse_blank s.data.toList
    have HPB := Lib.hid hpb
    clear hpb
    have HZ : x2 = 2 → Hid (∃ x' y', parseR (102 :: 48 :: s.data.toList.drop 1) = (x', y', false)) := fun h2 => Lib.hid (by have := HP.out; rw [h2] at this; exact parse_zero this)
    have hd1 : (⟨#[102, 48]⟩ ++ s.extract 1 s.size : ByteArray).data.toList = 102 :: 48 :: s.data.toList.drop 1 := by
      rw [ByteArray.data_append, Array.toList_append, Lib.extract_data]
      have e : s.data.toList.drop 1 = (s.data.toList.drop 1).take (s.size - 1) := (List.take_of_length_le (by rw [List.length_drop, ← Lib.size_eq]; omega)).symm
      rw [← e]; rfl
    have hd2 : (s ++ ⟨#[32]⟩ : ByteArray).data.toList = s.data.toList ++ [32] := by
      rw [ByteArray.data_append, Array.toList_append]
    have HD1 := Lib.hid hd1
    have HD2 := Lib.hid hd2
    clear hd1 hd2
    go_wp2_with fail
    refine (implParse_any _ _).mono ?_
    rw [HD1.out]
    rintro e w4 ⟨xa, ya, ba, rfl, h4, hb4⟩
    have B4 := (B3.alloc (.cells #[.int .i64 x2, .int .i64 y2] 25)).belowS hb4
    have bw4 := below_step (below_alloc bw3 _) hb4
    clear hb4 c0' c1' f0' f1'
    have H4 := Lib.hid h4
    clear h4
    go_wp2_with fail
    refine (implParse_any _ _).mono ?_
    rw [HD2.out]
    rintro e w5 ⟨x5, y5, b5, rfl, h5, hb5⟩
    obtain ⟨rfl, rfl, rfl⟩ : x5 = xb ∧ y5 = yb ∧ b5 = false := by have := h5.symm.trans HPB.out; simpa using this
    have B5 := (B4.alloc (.cells #[.int .i64 xa, .int .i64 ya] 25)).belowS hb5
    have bw5 := below_step (below_alloc bw4 _) hb5
    obtain ⟨c50, c51, f50, f51⟩ := blk2 B5
    have hz5 := B5.lt
    have hne5 : w2.heap.size ≠ w5.heap.size := by omega
    clear hb5 h5
    by_cases hk : x2 = 2
    · obtain ⟨x', y', h6⟩ := (HZ hk).out
      obtain rfl : ba = false := by have := H4.out.symm.trans h6; simp at this; exact this.2.2
      have hk' : (x2 != 2) = false := by rw [hk]; rfl
      clear h6 hk HZ
      go_wp2_with fail
      go_ret
      exact ⟨rfl, below_alloc bw5 _⟩
    · have hk' : (x2 != 2) = true := by simpa using hk
      clear hk HZ
      go_wp2_with fail
      go_ret
      exact ⟨rfl, below_alloc bw5 _⟩
end Go.Proofs.YtlemkfpgdlfdnaaDoor
