/- Contents are read, by both texts. -/
import Derived.Test.YtokapkpebadcaaaDoorDec
import Derived.Test.YtokapkpebadcaaaDoorPath2
namespace Go.Proofs.YtokapkpebadcaaaDoor
open Go.RowKit
set_option linter.unusedVariables false
set_option linter.unusedSimpArgs false
set_option maxRecDepth 20000

/-- The content of a text. -/
def parseR (l : List UInt8) : Int × Int × Bool := if l = [45] then (0, 0, true) else if l = [100] then (1, 0, true) else match (List.range 100).find? (fun v => (102 :: Lib.decDigits v) == l) with
  | some v => (2, (v : Int), true)
  | none => (0, 0, false)
def undec (l : List UInt8) : Nat := l.foldl (fun n c => 10 * n + (c.toNat - 48)) 0
theorem undec_dec : ∀ (n v : Nat), v ≤ n → undec (Lib.decDigits v) = v
  | n, v, h => by
    unfold Lib.decDigits
    by_cases h10 : v < 10
    · rw [dif_pos h10]
      show 10 * 0 + ((UInt8.ofNat (48 + v)).toNat - 48) = v
      rw [UInt8.toNat_ofNat_of_lt' (by show 48 + v < 256; omega)]; omega
    · rw [dif_neg h10]
      cases n with
      | zero => omega
      | succ n =>
        have ih := undec_dec n (v / 10) (by omega)
        unfold undec at ih ⊢
        rw [List.foldl_append, ih]
        show 10 * (v / 10) + ((UInt8.ofNat (48 + v % 10)).toNat - 48) = v
        rw [UInt8.toNat_ofNat_of_lt' (by show 48 + v % 10 < 256; omega)]; omega
theorem dec_inj {a b : Nat} (h : Lib.decDigits a = Lib.decDigits b) : a = b := by
  rw [← undec_dec a a (Nat.le_refl _), h, undec_dec b b (Nat.le_refl _)]
theorem dec_ne (v : Nat) : (102 :: Lib.decDigits v : List UInt8) ≠ [45] ∧ (102 :: Lib.decDigits v : List UInt8) ≠ [100] := ⟨by intro h; injection h with h _; exact absurd h (by decide), by intro h; injection h with h _; exact absurd h (by decide)⟩
theorem parse_file {l : List UInt8} {v : Nat} (hv : v < 100) (h : 102 :: Lib.decDigits v = l) : parseR l = (2, (v : Int), true) := by
  subst h
  unfold parseR
  rw [if_neg (dec_ne v).1, if_neg (dec_ne v).2]
  cases hf : (List.range 100).find? (fun u => (102 :: Lib.decDigits u) == (102 :: Lib.decDigits v : List UInt8)) with
  | none =>
    have := List.find?_eq_none.1 hf v (List.mem_range.2 hv)
    simp at this
  | some u =>
    have := List.find?_some hf
    rw [beq_iff_eq] at this
    injection this with _ h1
    rw [dec_inj h1]
theorem parse_hit {x y : Int} {l : List UInt8} (hne : l ≠ []) (h : textC x y = l) : parseR l = (x, y, true) := by
  rcases ok_cases x y with ⟨ho, ht⟩ | ⟨ho, i, rfl, rfl, hi, ht⟩ | ⟨ho, rfl, rfl, ht⟩ | ⟨ho, rfl, rfl, ht⟩
  · exact absurd (h.symm.trans ht) hne
  · exact parse_file hi (ht.symm.trans h)
  · rw [← h, ht]; rfl
  · rw [← h, ht]; rfl
theorem parse_none {l : List UInt8} (h1 : l ≠ [45]) (h2 : l ≠ [100]) (h : ∀ v, v < 100 → 102 :: Lib.decDigits v ≠ l) : parseR l = (0, 0, false) := by
  unfold parseR
  rw [if_neg h1, if_neg h2]
  cases hf : (List.range 100).find? (fun u => (102 :: Lib.decDigits u) == l) with
  | none => rfl
  | some u =>
    have h3 := List.find?_some hf
    rw [beq_iff_eq] at h3
    exact absurd h3 (h u (List.mem_range.1 (List.mem_of_find?_eq_some hf)))
theorem text_file {v : Nat} (hv : v < 100) : textC 2 v = 102 :: Lib.decDigits v := by
  have ho : okC 2 v = true := by unfold okC; rw [decide_eq_true_eq]; omega
  unfold textC
  rw [ho, if_pos rfl, if_pos rfl, Int.toNat_natCast]

/-- A content that is read of a text, and whether there is one. -/
def ParseOf (l : List UInt8) (w : World) (e : Ending) (w' : World) : Prop := ∃ (x y : Int) (b : Bool), e = .returned (.tuple #[.agg #[.int .i64 x, .int .i64 y], .bool b]) ∧ parseR l = (x, y, b) ∧ Below w.heap.size w w'
theorem ParseOf.of {l : List UInt8} {x y : Int} {b : Bool} {w w' : World} (h : parseR l = (x, y, b)) (hb : Below w.heap.size w w') : ParseOf l w (.returned (.tuple #[.agg #[.int .i64 x, .int .i64 y], .bool b])) w' := ⟨x, y, b, rfl, h, hb⟩

set_option maxHeartbeats 1000000 in
theorem specParse_any (s : ByteArray) (w : World) : Calls Tryd.prog 65 #[.string s] w (ParseOf s.data.toList w) := by
  have e1 : (s.toList == [45]) = decide (s.data.toList = [45]) := toList_beq rfl _
  have e2 : (s.toList == [100]) = decide (s.data.toList = [100]) := toList_beq rfl _
  by_cases h1 : s.data.toList = [45]
  · rw [decide_eq_true h1] at e1
    have HP := Lib.hid (show parseR s.data.toList = (0, 0, true) by rw [h1]; rfl)
    clear e2 h1
    go_enter Tryd.func65, Tryd.ntmps65
    go_wp2_with fail
    refine bodyPost_ret (v := .tuple #[.agg #[.int .i64 0, .int .i64 0], .bool true]) (by simp [results, Tryd.results65, go_sem]) rfl (ParseOf.of HP.out ?_)
    exact (Below.refl _ _).alloc (Nat.le_refl _) _
  rw [decide_eq_false h1] at e1
  have H1 := Lib.hid h1
  clear h1
  by_cases h2 : s.data.toList = [100]
  · rw [decide_eq_true h2] at e2
    have HP := Lib.hid (show parseR s.data.toList = (1, 0, true) by rw [h2]; rfl)
    clear h2
    go_enter Tryd.func65, Tryd.ntmps65
    go_wp2_with fail
    refine bodyPost_ret (v := .tuple #[.agg #[.int .i64 1, .int .i64 0], .bool true]) (by simp [results, Tryd.results65, go_sem]) rfl (ParseOf.of HP.out ?_)
    exact (Below.refl _ _).alloc (Nat.le_refl _) _
  rw [decide_eq_false h2] at e2
  have H2 := Lib.hid h2
  clear h2
  go_enter Tryd.func65, Tryd.ntmps65
  go_wp2_with fail
  go_loopw [4] (fun i wr => ∃ k : Nat, i = .int .i64 k ∧ k ≤ 100 ∧ Hid (∀ v, v < k → 102 :: Lib.decDigits v ≠ s.data.toList) ∧ Blk wr w.heap.size 39 #[.int .i64 0, .int .i64 0] ∧ Below w.heap.size w wr) (fun i _ => 100 - (intOf i).toNat)
  case atStart => exact ⟨0, rfl, by omega, Lib.hid (fun v hv => by omega), Blk.new w _ _, (Below.refl _ _).alloc (Nat.le_refl _) _⟩
  case round =>
    obtain ⟨k, rfl, hk, HN, B, hbw⟩ := hrel
    have hz0 := B.lt
    have c0 := B.cell 0
    have c1 := B.cell 1
    have f0 := B.frozen 0
    have f1 := B.frozen 1
    simp only [List.getElem?_toArray, List.getElem?_cons_zero, List.getElem?_cons_succ] at c0 c1
    by_cases hlt : k < 100
    · go_wp2_with fail
      refine (specText_any 2 k _).mono ?_
      rintro e w2 ⟨t, rfl, ht, htz, hb2⟩
      have B2 := (B.alloc (.cells #[.int .i64 2, .int .i64 k] 39)).belowS hb2
      have X2 := (Blk.new wr 39 #[.int .i64 2, .int .i64 k]).belowS hb2
      have bw2 := below_step (below_alloc hbw _) hb2
      clear c0 c1 f0 f1
      rw [text_file hlt] at ht
      have c20 := B2.cell 0
      have c21 := B2.cell 1
      have f20 := B2.frozen 0
      have f21 := B2.frozen 1
      have x20 := X2.cell 0
      have x21 := X2.cell 1
      simp only [List.getElem?_toArray, List.getElem?_cons_zero, List.getElem?_cons_succ] at c20 c21 x20 x21
      have hne : w.heap.size ≠ wr.heap.size := by omega
      have hx : (t.toList == s.toList) = decide (102 :: Lib.decDigits k = s.data.toList) := by rw [toList_is (s := s) rfl]; exact toList_beq ht _
      clear ht
      by_cases hm : 102 :: Lib.decDigits k = s.data.toList
      · rw [decide_eq_true hm] at hx
        have HP := Lib.hid (parse_file hlt hm)
        clear hm
        go_wp2_with fail
        refine bodyPost_ret (v := .tuple #[.agg #[.int .i64 2, .int .i64 k], .bool true]) (by simp [results, Tryd.results65, go_sem, c20, c21]) rfl (ParseOf.of HP.out ?_)
        exact below_set (below_set bw2 (Nat.le_refl _) _) (Nat.le_refl _) _
      · rw [decide_eq_false hm] at hx
        have HM := Lib.hid hm
        clear hm
        go_wp2_with fail
        go_roundw
        case rel =>
          refine ⟨k + 1, by go_num, by omega, Lib.hid (fun v hv => ?_), B2, bw2⟩
          by_cases hvk : v = k
          · subst hvk; exact HM.out
          · exact HN.out v (by omega)
        case measure => simp [intOf]; omega
    · obtain rfl : k = 100 := by omega
      have HP := Lib.hid (parse_none H1.out H2.out HN.out)
      go_wp2_with fail
      refine bodyPost_ret (v := .tuple #[.agg #[.int .i64 0, .int .i64 0], .bool false]) (by simp [results, Tryd.results65, go_sem, c0, c1]) rfl (ParseOf.of HP.out ?_)
      exact below_set (below_set hbw (Nat.le_refl _) _) (Nat.le_refl _) _

/-- No content before (a, b) has the text. -/
def NoneTo (l : List UInt8) (a b : Nat) : Prop := l = [] ∨ ∀ x v : Nat, v < 100 → (x < a ∨ x = a ∧ v < b) → textC x v ≠ l
theorem NoneTo.next {l : List UInt8} {a b : Nat} (h : NoneTo l a b) (hn : l = [] ∨ textC a b ≠ l) : NoneTo l a (b + 1) := by
  rcases h with h | h
  · exact .inl h
  · rcases hn with hn | hn
    · exact .inl hn
    · refine .inr fun x v hv hx => ?_
      by_cases hc : x = a ∧ v = b
      · obtain ⟨rfl, rfl⟩ := hc; exact hn
      · exact h x v hv (by omega)
theorem NoneTo.row {l : List UInt8} {a : Nat} (h : NoneTo l a 100) : NoneTo l (a + 1) 0 := by
  rcases h with h | h
  · exact .inl h
  · exact .inr fun x v hv hx => h x v hv (by omega)
theorem NoneTo.all {l : List UInt8} (h : NoneTo l 3 0) : parseR l = (0, 0, false) := by
  rcases h with rfl | h
  · exact parse_none (by decide) (by decide) (fun v _ => by simp)
  · refine parse_none (fun h1 => ?_) (fun h2 => ?_) (fun v hv h3 => ?_)
    · exact h 0 0 (by omega) (by omega) (by rw [h1]; decide)
    · exact h 1 0 (by omega) (by omega) (by rw [h2]; decide)
    · exact h 2 v hv (by omega) (by rw [← h3]; exact text_file hv)

set_option maxHeartbeats 2000000 in
theorem implParse_any (s : ByteArray) (w : World) : Calls Tryd.prog 66 #[.string s] w (ParseOf s.data.toList w) := by
  go_enter Tryd.func66, Tryd.ntmps66
  go_wp2_with fail
  go_loopw [4] (fun i wr => ∃ a : Nat, i = .int .i64 a ∧ a ≤ 3 ∧ NoneTo s.data.toList a 0 ∧ Blk wr w.heap.size 39 #[.int .i64 0, .int .i64 0] ∧ Below w.heap.size w wr) (fun i _ => 3 - (intOf i).toNat)
  case atStart => exact ⟨0, rfl, by omega, .inr (fun x v hv hx => by omega), Blk.new w _ _, (Below.refl _ _).alloc (Nat.le_refl _) _⟩
  case round =>
    obtain ⟨a, rfl, ha, HN, B, hbw⟩ := hrel
    by_cases hlt : a < 3
    · have hd : decide ((a : Int) ≤ 2) = true := decide_eq_true (by omega)
      go_wp2_with fail
      try rw [hd]
      clear hd
      go_loopw [5] (fun i wr => ∃ b : Nat, i = .int .i64 b ∧ b ≤ 100 ∧ NoneTo s.data.toList a b ∧ Blk wr w.heap.size 39 #[.int .i64 0, .int .i64 0] ∧ Below w.heap.size w wr) (fun i _ => 100 - (intOf i).toNat)
      case atStart => exact ⟨0, rfl, by omega, HN, B, hbw⟩
      case round =>
        clear HN B hbw
        obtain ⟨b, rfl, hb, HN, B, hbw⟩ := hrel
        have hz0 := B.lt
        by_cases hlb : b < 100
        · cases h0 : decide (s.data.toList = []) with
          | true =>
            have e0 : (s.toList == []) = true := by rw [toList_beq rfl]; exact h0
            have H0 := Lib.hid (of_decide_eq_true h0)
            clear h0
            go_wp2_with fail
            go_roundw
            case rel => exact ⟨b + 1, by go_num, by omega, HN.next (.inl H0.out), B.alloc _, below_alloc hbw _⟩
            case measure => simp [intOf]; omega
          | false =>
            have e0 : (s.toList == []) = false := by rw [toList_beq rfl]; exact h0
            have H0 := Lib.hid (of_decide_eq_false h0)
            clear h0
            go_wp2_with fail
            refine (implText_any a b _).mono ?_
            rintro e w2 ⟨t, rfl, ht, htz, hb2⟩
            have B2 := (B.alloc (.cells #[.int .i64 a, .int .i64 b] 39)).belowS hb2
            have X2 := (Blk.new wr 39 #[.int .i64 a, .int .i64 b]).belowS hb2
            have bw2 := below_step (below_alloc hbw _) hb2
            have c20 := B2.cell 0
            have c21 := B2.cell 1
            have f20 := B2.frozen 0
            have f21 := B2.frozen 1
            have x20 := X2.cell 0
            have x21 := X2.cell 1
            simp only [List.getElem?_toArray, List.getElem?_cons_zero, List.getElem?_cons_succ] at c20 c21 x20 x21
            have hne : w.heap.size ≠ wr.heap.size := by omega
            have hx : (t.toList == s.toList) = decide (textC a b = s.data.toList) := by rw [toList_is (s := s) rfl]; exact toList_beq ht _
            clear ht
            by_cases hm : textC a b = s.data.toList
            · rw [decide_eq_true hm] at hx
              have HP := Lib.hid (parse_hit H0.out hm)
              clear hm
              go_wp2_with fail
              refine bodyPost_ret (v := .tuple #[.agg #[.int .i64 a, .int .i64 b], .bool true]) (by simp [results, Tryd.results66, go_sem, c20, c21]) rfl (ParseOf.of HP.out ?_)
              exact below_set (below_set bw2 (Nat.le_refl _) _) (Nat.le_refl _) _
            · rw [decide_eq_false hm] at hx
              have HM := Lib.hid hm
              clear hm
              go_wp2_with fail
              go_roundw
              case rel => exact ⟨b + 1, by go_num, by omega, HN.next (.inr HM.out), B2, bw2⟩
              case measure => simp [intOf]; omega
        · obtain rfl : b = 100 := by omega
          go_wp2_with fail
          go_roundw
          case rel => exact ⟨a + 1, by go_num, by omega, HN.row, B, hbw⟩
          case measure => simp [intOf]; omega
    · obtain rfl : a = 3 := by omega
      have HP := Lib.hid HN.all
      have c0 := B.cell 0
      have c1 := B.cell 1
      have f0 := B.frozen 0
      have f1 := B.frozen 1
      simp only [List.getElem?_toArray, List.getElem?_cons_zero, List.getElem?_cons_succ] at c0 c1
      go_wp2_with fail
      refine bodyPost_ret (v := .tuple #[.agg #[.int .i64 0, .int .i64 0], .bool false]) (by simp [results, Tryd.results66, go_sem, c0, c1]) rfl (ParseOf.of HP.out ?_)
      exact below_set (below_set hbw (Nat.le_refl _) _) (Nat.le_refl _) _
end Go.Proofs.YtokapkpebadcaaaDoor
