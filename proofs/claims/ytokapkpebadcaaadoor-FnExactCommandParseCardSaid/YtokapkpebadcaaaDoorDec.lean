/- Decimals below a hundred, by both texts; the texts of contents. -/
import Derived.Test.YtokapkpebadcaaaDoorPath
import Derived.Test.YtokapkpebadcaaaDoorShelf
import Derived.Test.YtokapkpebadcaaaDoorContent
import Derived.Laws.IdiomStrings
import Derived.Deep.RegionWith
import Derived.IntWalk
namespace Go.Proofs.YtokapkpebadcaaaDoor
open Go.RowKit
set_option linter.unusedVariables false
set_option linter.unusedSimpArgs false
set_option maxRecDepth 20000

theorem conv_one (m : Int) (h0 : 0 ≤ m) (h1 : m < 256) (W : World) (b : Nat) (hc : W.cell? ⟨b, 0, none⟩ = some (.int .u8 m)) :
    (convert 22 9 (.slice (some ⟨b, 0, none⟩) 1 1)).run Tryd.prog W = .ok (.string ⟨#[UInt8.ofNat m.toNat]⟩) W := by
  refine run_convert_bytes_back W 22 9 5 ⟨b, 0, none⟩ 1 [UInt8.ofNat m.toNat] Tryd.underlying22 Tryd.underlying5 Tryd.underlying9 ?_
  intro j hj
  have : j = 0 := by simpa using hj
  subst this
  have e : ((⟨b, 0, none⟩ : Addr).add 0) = ⟨b, 0, none⟩ := by simp [Addr.add]
  rw [e, hc]
  simp only [List.getElem_cons_zero]
  rw [UInt8.toNat_ofNat_of_lt' (by show m.toNat < 256; omega)]
  congr 2; omega
theorem dec_one {z : Int} (h0 : 0 ≤ z) (h1 : z < 10) : Lib.decDigits z.toNat = [UInt8.ofNat (48 + z).toNat] := by
  unfold Lib.decDigits
  rw [dif_pos (by omega)]
  congr 2; omega
theorem dec_two {z : Int} (h0 : 10 ≤ z) : Lib.decDigits z.toNat = Lib.decDigits (z / 10).toNat ++ [UInt8.ofNat (48 + z % 10).toNat] := by
  rw [Lib.decDigits, dif_neg (by omega)]
  have e1 : z.toNat / 10 = (z / 10).toNat := by omega
  have e2 : 48 + z.toNat % 10 = (48 + z % 10).toNat := by omega
  rw [e1, e2]

theorem size_add' (a b : ByteArray) : (a ++ b).size = a.size + b.size := by simp
/-- The decimals of a number. -/
def DecOf (m : Nat) (z : Int) (w : World) (e : Ending) (w' : World) : Prop := ∃ s : ByteArray, e = .returned (.string s) ∧ s.data.toList = Lib.decDigits z.toNat ∧ s.size ≤ m ∧ Below w.heap.size w w'
theorem specDec1_any (z : Int) (w : World) (h0 : 0 ≤ z) (h1 : z < 10) : Calls Tryd.prog 77 #[.int .i64 z] w (DecOf 1 z w) := by
  have kc := conv_one (48 + z) (by omega) (by omega)
  go_enter Tryd.func77, Tryd.ntmps77
  go_wp2_with fail
  go_ret
  exact ⟨_, rfl, (dec_one h0 h1).symm, Nat.le_refl 1, (Below.refl _ _).alloc (Nat.le_refl _) _⟩
set_option maxRecDepth 100000 in
set_option maxHeartbeats 1000000 in
theorem specDec2_any (z : Int) (w : World) (h0 : 10 ≤ z) (h1 : z < 100) : Calls Tryd.prog 77 #[.int .i64 z] w (DecOf 2 z w) := by
  have kc := conv_one (48 + z % 10) (by omega) (by omega)
  have hd : 0 ≤ z / 10 ∧ z / 10 < 10 := by omega
  have HD := Lib.hid (dec_two h0)
  have hb1 : decide (z < -9223372036854775807) = false := decide_eq_false (by omega)
  have hb2 : decide (z < 0) = false := decide_eq_false (by omega)
  have hb3 : decide (z < 10) = false := decide_eq_false (by omega)
  go_enter Tryd.func77, Tryd.ntmps77
  go_wp2_with fail
  have e2 : z.tmod 10 = z % 10 := Int.tmod_eq_emod_of_nonneg (by omega)
  have e1 : IntKind.i64.wrap (z.tdiv 10) = z / 10 := by rw [Int.tdiv_eq_ediv_of_nonneg (by omega)]; exact IntWalk.i64_in _ (by omega)
  have e3 : IntKind.i64.wrap (48 + z % 10) = 48 + z % 10 := IntWalk.i64_in _ (by omega)
  have e4 : IntKind.u8.wrap (48 + z % 10) = 48 + z % 10 := by rw [IntKind.wrap_u8]; omega
  go_region_with (go_at_call 77; refine (specDec1_any (z / 10) _ hd.1 hd.2).mono ?_; rintro e w1 ⟨s, rfl, hs, hsz, hb⟩; obtain ⟨hc, hf⟩ := bcell hb; have HS := Lib.hid hs; clear hs)
  all_goals
    clear e1 e2 e3 e4
    go_wp2_with fail
    go_ret
    refine ⟨_, rfl, ?_, ?_, ?_⟩
    · rw [HD.out, ← HS.out]; rfl
    · rw [size_add']; show s.size + 1 ≤ 2; omega
    · repeat (first | exact Below.refl _ _ | refine below_alloc ?_ _ | refine below_drew1 ?_ | refine below_step2 (by assumption) ?_)
theorem specDec_any (z : Int) (w : World) (h0 : 0 ≤ z) (h1 : z < 100) : Calls Tryd.prog 77 #[.int .i64 z] w (DecOf 2 z w) := by
  by_cases h : z < 10
  · exact (specDec1_any z w h0 h).mono fun e w' ⟨s, he, hs, hz, hb⟩ => ⟨s, he, hs, by omega, hb⟩
  · exact specDec2_any z w (by omega) h1

/-- The text of a content. -/
def textC (x y : Int) : List UInt8 := if okC x y = true then (if x = 2 then 102 :: Lib.decDigits y.toNat else if x = 1 then [100] else [45]) else []
def TextOf (x y : Int) (w : World) (e : Ending) (w' : World) : Prop := ∃ s : ByteArray, e = .returned (.string s) ∧ s.data.toList = textC x y ∧ s.size ≤ 3 ∧ Below w.heap.size w w'
theorem ok_cases (x y : Int) : okC x y = false ∧ textC x y = [] ∨ okC x y = true ∧ (∃ i : Nat, x = 2 ∧ y = i ∧ i < 100 ∧ textC x y = 102 :: Lib.decDigits i) ∨ okC x y = true ∧ x = 1 ∧ y = 0 ∧ textC x y = [100] ∨ okC x y = true ∧ x = 0 ∧ y = 0 ∧ textC x y = [45] := by
  cases h : okC x y with
  | false => exact .inl ⟨rfl, by unfold textC; rw [h]; rfl⟩
  | true =>
    right
    have h' := of_decide_eq_true h
    rcases h' with ⟨rfl | rfl, rfl⟩ | ⟨rfl, h1, h2⟩
    · exact .inr (.inr ⟨rfl, rfl, rfl, by unfold textC; rw [h]; rfl⟩)
    · exact .inr (.inl ⟨rfl, rfl, rfl, by unfold textC; rw [h]; rfl⟩)
    · exact .inl ⟨rfl, y.toNat, rfl, by omega, by omega, by unfold textC; rw [h]; rfl⟩

theorem specText_any (x y : Int) (w : World) : Calls Tryd.prog 62 #[.agg #[.int .i64 x, .int .i64 y]] w (TextOf x y w) := by
  rcases ok_cases x y with ⟨h, ht⟩ | ⟨h, i, rfl, rfl, hi, ht⟩ | ⟨h, rfl, rfl, ht⟩ | ⟨h, rfl, rfl, ht⟩
  · have H := Lib.hid h
    have HT := Lib.hid ht
    clear h ht
    go_enter Tryd.func62, Tryd.ntmps62
    go_wp2_with fail
    refine (specContentValid_any x y _).mono ?_
    rw [H.out]
    rintro e w1 ⟨rfl, hb⟩
    obtain ⟨hc, hf⟩ := bcell hb
    go_wp2_with fail
    go_ret
    exact ⟨_, rfl, HT.out.symm, by decide, below_step ((Below.refl _ _).alloc (Nat.le_refl _) _) hb⟩
  · have H := Lib.hid h
    have HT := Lib.hid ht
    clear h ht
    go_enter Tryd.func62, Tryd.ntmps62
    go_wp2_with fail
    refine (specContentValid_any 2 i _).mono ?_
    rw [H.out]
    rintro e w1 ⟨rfl, hb⟩
    obtain ⟨hc, hf⟩ := bcell hb
    go_wp2_with fail
    refine (specDec_any i _ (by omega) (by omega)).mono ?_
    rintro e w2 ⟨s, rfl, hs, hz, hb2⟩
    have HS := Lib.hid hs
    have bw := below_step (below_step ((Below.refl w.heap.size w).alloc (Nat.le_refl _) _) hb) hb2
    clear hs hc hf
    go_wp2_with fail
    go_ret
    refine ⟨_, rfl, ?_, ?_, bw⟩
    · have h1 := HS.out
      rw [Int.toNat_natCast] at h1
      rw [HT.out, ← h1]
      simp [ByteArray.data_append]
    · rw [size_add']; show 1 + s.size ≤ 3; omega
  · have H := Lib.hid h
    have HT := Lib.hid ht
    clear h ht
    go_enter Tryd.func62, Tryd.ntmps62
    go_wp2_with fail
    refine (specContentValid_any 1 0 _).mono ?_
    rw [H.out]
    rintro e w1 ⟨rfl, hb⟩
    obtain ⟨hc, hf⟩ := bcell hb
    go_wp2_with fail
    go_ret
    exact ⟨_, rfl, HT.out.symm, by decide, below_step ((Below.refl _ _).alloc (Nat.le_refl _) _) hb⟩
  · have H := Lib.hid h
    have HT := Lib.hid ht
    clear h ht
    go_enter Tryd.func62, Tryd.ntmps62
    go_wp2_with fail
    refine (specContentValid_any 0 0 _).mono ?_
    rw [H.out]
    rintro e w1 ⟨rfl, hb⟩
    obtain ⟨hc, hf⟩ := bcell hb
    go_wp2_with fail
    go_ret
    exact ⟨_, rfl, HT.out.symm, by decide, below_step ((Below.refl _ _).alloc (Nat.le_refl _) _) hb⟩
theorem dec_len {i : Nat} (h : i < 100) : (Lib.decDigits i).length ≤ 2 := by
  by_cases h1 : i < 10
  · unfold Lib.decDigits; rw [dif_pos h1]; simp
  · unfold Lib.decDigits; rw [dif_neg h1]; unfold Lib.decDigits; rw [dif_pos (by omega)]; simp
theorem implText_any (x y : Int) (w : World) : Calls Tryd.prog 63 #[.agg #[.int .i64 x, .int .i64 y]] w (TextOf x y w) := by
  rcases ok_cases x y with ⟨h, ht⟩ | ⟨h, i, rfl, rfl, hi, ht⟩ | ⟨h, rfl, rfl, ht⟩ | ⟨h, rfl, rfl, ht⟩
  · have H := Lib.hid h
    have HT := Lib.hid ht
    clear h ht
    go_enter Tryd.func63, Tryd.ntmps63
    go_wp2_with fail
    refine (implContentValid_any x y _).mono ?_
    rw [H.out]
    rintro e w1 ⟨rfl, hb⟩
    obtain ⟨hc, hf⟩ := bcell hb
    go_wp2_with fail
    go_ret
    exact ⟨_, rfl, HT.out.symm, by decide, below_step ((Below.refl _ _).alloc (Nat.le_refl _) _) hb⟩
  · have H := Lib.hid h
    have HT := Lib.hid ht
    clear h ht
    go_enter Tryd.func63, Tryd.ntmps63
    go_wp2_with fail
    refine (implContentValid_any 2 i _).mono ?_
    rw [H.out]
    rintro e w1 ⟨rfl, hb⟩
    obtain ⟨hc, hf⟩ := bcell hb
    go_wp2_with fail
    refine (Tryd.strconv_Itoa_small i hi _).mono ?_
    rintro e w2 ⟨rfl, rfl⟩
    obtain ⟨s, hS⟩ : ∃ s : ByteArray, (⟨(Lib.decDigits i).toArray⟩ : ByteArray) = s := ⟨_, rfl⟩
    have hz : s.size ≤ 2 := by rw [← hS]; exact dec_len hi
    have hd : s.data.toList = Lib.decDigits i := by rw [← hS]
    rw [hS]
    have HD := Lib.hid hd
    clear hS hd
    go_wp2_with fail
    go_ret
    refine ⟨_, rfl, ?_, ?_, below_step ((Below.refl _ _).alloc (Nat.le_refl _) _) hb⟩
    · rw [HT.out, ← HD.out]; simp [ByteArray.data_append]
    · rw [size_add']; show 1 + s.size ≤ 3; omega
  · have H := Lib.hid h
    have HT := Lib.hid ht
    clear h ht
    go_enter Tryd.func63, Tryd.ntmps63
    go_wp2_with fail
    refine (implContentValid_any 1 0 _).mono ?_
    rw [H.out]
    rintro e w1 ⟨rfl, hb⟩
    obtain ⟨hc, hf⟩ := bcell hb
    go_wp2_with fail
    go_ret
    exact ⟨_, rfl, HT.out.symm, by decide, below_step ((Below.refl _ _).alloc (Nat.le_refl _) _) hb⟩
  · have H := Lib.hid h
    have HT := Lib.hid ht
    clear h ht
    go_enter Tryd.func63, Tryd.ntmps63
    go_wp2_with fail
    refine (implContentValid_any 0 0 _).mono ?_
    rw [H.out]
    rintro e w1 ⟨rfl, hb⟩
    obtain ⟨hc, hf⟩ := bcell hb
    go_wp2_with fail
    go_ret
    exact ⟨_, rfl, HT.out.symm, by decide, below_step ((Below.refl _ _).alloc (Nat.le_refl _) _) hb⟩
end Go.Proofs.YtokapkpebadcaaaDoor
