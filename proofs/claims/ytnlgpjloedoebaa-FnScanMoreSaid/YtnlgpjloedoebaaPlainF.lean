/- Plain laws on frames: one behind the other, several, torn, parts, what is read was written, good frames stay good. No program in sight. -/
import Derived.Test.YtnlgpjloedoebaaWFrame
import Derived.Test.YtnlgpjloedoebaaFramesOf
namespace Go.Proofs.Ytnlgpjloedoebaa
open Go.RowKit
theorem okT_iff {bs : List (List Int)} : okT bs = true ↔ bs.length ≤ 40 ∧ ∀ b ∈ bs, bodyB b = true := by
  unfold okT; rw [Bool.and_eq_true, decide_eq_true_eq, List.all_eq_true]
theorem framesL_pos {bs : List (List Int)} (h : okT bs = true) : framesL bs = bs.flatMap frameL := if_pos h
theorem okT_take {bs : List (List Int)} (h : okT bs = true) (k : Nat) : okT (bs.take k) = true :=
  okT_iff.2 ⟨by have := (okT_iff.1 h).1; rw [List.length_take]; omega, fun b hb => (okT_iff.1 h).2 b (List.mem_of_mem_take hb)⟩
theorem okT_drop {bs : List (List Int)} (h : okT bs = true) (k : Nat) : okT (bs.drop k) = true :=
  okT_iff.2 ⟨by have := (okT_iff.1 h).1; rw [List.length_drop]; omega, fun b hb => (okT_iff.1 h).2 b (List.mem_of_mem_drop hb)⟩
/-- Frames are one behind the other. -/
theorem frames_many {bs : List (List Int)} (h : okT bs = true) (k : Nat) : framesL (bs.take k) ++ framesL (bs.drop k) = framesL bs := by
  rw [framesL_pos h, framesL_pos (okT_take h k), framesL_pos (okT_drop h k), ← List.flatMap_append, List.take_append_drop]
/-- Several frames are read. -/
theorem frames_read {bs : List (List Int)} (h : okT bs = true) : scanL (framesL bs) = (bs, (framesL bs).length) := by
  have := scan_frames bs (okT_iff.1 h).2 [] rfl
  rw [List.append_nil] at this
  rw [framesL_pos h, this]
/-- A torn frame is none. -/
theorem headL_torn {b : List Int} (h : bodyB b = true) : headL ((frameL b).dropLast) = none := by
  rw [frameL_pos h]
  have e : ((b.length : Int) :: (b ++ [sumL b])).dropLast = (b.length : Int) :: b := by
    rw [show (b.length : Int) :: (b ++ [sumL b]) = ((b.length : Int) :: b) ++ [sumL b] from rfl, List.dropLast_concat]
  rw [e, headL_cons, if_neg]
  rintro ⟨_, h2, _⟩
  simp at h2; omega
theorem frames_torn {bs : List (List Int)} {b : List Int} (h : okT (bs ++ [b]) = true) : scanL ((framesL (bs ++ [b])).take ((framesL (bs ++ [b])).length - 1)) = (bs, (framesL (bs ++ [b])).length - (b.length + 2)) := by
  have hb := (okT_iff.1 h).2 b (by simp)
  have hbs : ∀ x ∈ bs, bodyB x = true := fun x hx => (okT_iff.1 h).2 x (by simp [hx])
  have hs := frameL_size hb
  have e : framesL (bs ++ [b]) = bs.flatMap frameL ++ frameL b := by rw [framesL_pos h]; simp
  rw [e, ← List.dropLast_eq_take]
  have hne : frameL b ≠ [] := by intro h0; rw [h0] at hs; simp at hs
  rw [List.dropLast_append_of_ne_nil hne, scan_frames bs hbs _ (headL_torn hb)]
  congr 1
  rw [List.length_append]; omega

theorem headL_take {l b : List Int} {k : Nat} (h : headL (l.take k) = some b) : headL l = some b ∧ b.length + 2 ≤ k := by
  cases k with
  | zero => cases h
  | succ k =>
    cases l with
    | nil => cases h
    | cons m l =>
      have hb := (headL_body h).2.1
      rw [List.length_take] at hb
      refine ⟨?_, by omega⟩
      rw [List.take_succ_cons, headL_cons] at h
      split at h
      · rename_i hc
        obtain ⟨h1, h2, h3, h4⟩ := hc
        rw [List.length_take] at h2
        injection h with h
        have et : (l.take k).take m.toNat = l.take m.toNat := by rw [List.take_take, Nat.min_eq_left (by omega)]
        rw [et] at h h3 h4
        rw [List.getElem?_take_of_lt (by omega)] at h4
        rw [headL_cons, if_pos ⟨h1, by omega, h3, h4⟩, h]
      · cases h
/-- A part of the bytes has a part of the bodies. -/
theorem scanGo_part : ∀ (f f' : Nat) (l : List Int) (k : Nat), (l.take k).length < f → l.length < f' → (scanGo f (l.take k)).1 <+: (scanGo f' l).1 ∧ (scanGo f (l.take k)).2 ≤ k ∧ (scanGo f (l.take k)).2 ≤ (scanGo f' l).2
  | 0, _, l, k, h, _ => absurd h (by omega)
  | f + 1, 0, l, k, _, h => absurd h (by omega)
  | f + 1, f' + 1, l, k, h, h' => by
    cases hh : headL (l.take k) with
    | none => simp [scanGo, hh]
    | some b =>
      obtain ⟨h1, h2⟩ := headL_take hh
      have hb := (headL_body h1).2.1
      have e : (l.take k).drop (b.length + 2) = (l.drop (b.length + 2)).take (k - (b.length + 2)) := List.drop_take ..
      simp only [scanGo, hh, h1, e]
      have ih := scanGo_part f f' (l.drop (b.length + 2)) (k - (b.length + 2)) (by rw [List.length_take, List.length_drop]; rw [List.length_take] at h; omega) (by rw [List.length_drop]; omega)
      refine ⟨(List.prefix_cons_inj b).2 ih.1, by omega, by omega⟩
theorem scan_part (l : List Int) (k : Nat) : (scanL (l.take k)).1 <+: (scanL l).1 ∧ (scanL (l.take k)).2 ≤ k ∧ (scanL (l.take k)).2 ≤ (scanL l).2 := scanGo_part _ _ l k (Nat.lt_succ_self _) (Nat.lt_succ_self _)
/-- What is read was written. -/
theorem scanGo_back : ∀ (f : Nat) (l : List Int), l.length < f → (∀ b ∈ (scanGo f l).1, bodyB b = true) ∧ (scanGo f l).1.flatMap frameL = l.take (scanGo f l).2 ∧ (scanGo f l).2 ≤ l.length
  | 0, l, h => absurd h (by omega)
  | f + 1, l, h => by
    cases hh : headL l with
    | none => simp [scanGo, hh]
    | some b =>
      obtain ⟨h1, h2, _, h4⟩ := headL_body hh
      obtain ⟨i1, i2, i3⟩ := scanGo_back f (l.drop (b.length + 2)) (by rw [List.length_drop]; omega)
      rw [List.length_drop] at i3
      simp only [scanGo, hh]
      refine ⟨fun x hx => ?_, ?_, by omega⟩
      · rcases List.mem_cons.1 hx with rfl | hx
        · exact h1
        · exact i1 x hx
      · rw [List.flatMap_cons, i2, frameL_pos h1, ← h4]; exact List.take_add.symm
theorem scan_back (l : List Int) : (∀ b ∈ (scanL l).1, bodyB b = true) ∧ (scanL l).1.flatMap frameL = l.take (scanL l).2 ∧ (scanL l).2 ≤ l.length := scanGo_back _ l (Nat.lt_succ_self _)
/-- Good frames stay good. -/
theorem scan_more (l : List Int) {b : List Int} (hb : bodyB b = true) : scanL (l.take (scanL l).2 ++ frameL b) = ((scanL l).1 ++ [b], (scanL l).2 + (b.length + 2)) := by
  obtain ⟨h1, h2, h3⟩ := scan_back l
  have h := scan_frames ((scanL l).1 ++ [b]) (fun x hx => by
    rcases List.mem_append.1 hx with hx | hx
    · exact h1 x hx
    · simp at hx; subst hx; exact hb) [] rfl
  have e : ((scanL l).1 ++ [b]).flatMap frameL = l.take (scanL l).2 ++ frameL b := by rw [List.flatMap_append, h2]; simp
  rw [e, List.append_nil] at h
  rw [h, List.length_append, frameL_size hb, List.length_take, Nat.min_eq_left h3]
end Go.Proofs.Ytnlgpjloedoebaa
