/- A content put at a path of a tree, by the reference. -/
import Derived.Test.YtlhhplhciiobfaaDoorTreeV
import Derived.Test.YtlhhplhciiobfaaDoorOut
namespace Go.Proofs.YtlhhplhciiobfaaDoor
open Go.RowKit
set_option linter.unusedVariables false
set_option linter.unusedSimpArgs false
set_option maxRecDepth 20000

section
variable {α : Type} {enc : α → List Value} {k : Nat} {e : TypeId} {w W : World}
theorem OutB.lit {R : List α → Bool → Prop} {b : Bool} (hR : R [] b) (hb : Below w.heap.size w W) : OutB enc k e R w (.returned (.tuple #[.slice (some ⟨W.heap.size, 0, none⟩) 0 0, .bool b])) (W.alloc (.cells #[] e)) :=
  ⟨_, _, [], b, rfl, hR, World.ownsRow_lit W #[] 0 hb.size (by decide) (by simp), below_alloc hb _⟩
theorem OutZ.lit {R : List α → Int → Prop} {z : Int} (hR : R [] z) (hb : Below w.heap.size w W) : OutZ enc k e R w (.returned (.tuple #[.slice (some ⟨W.heap.size, 0, none⟩) 0 0, .int .i64 z])) (W.alloc (.cells #[] e)) :=
  ⟨_, _, [], z, rfl, hR, World.ownsRow_lit W #[] 0 hb.size (by decide) (by simp), below_alloc hb _⟩
end

theorem goP_nil (q : Nod) (d : Bool) : goP q d [] = if d then [] else [q] := by rw [goP]
theorem goP_ins {q n : Nod} {l : List Nod} (h : Op.bytesLess q.s n.s = true) : goP q false (n :: l) = q :: n :: goP q true l := by
  rw [goP, if_pos (by rw [h]; rfl)]
theorem goP_same {q n : Nod} {l : List Nod} {d : Bool} (h : n.s = q.s) : goP q d (n :: l) = if d then goP q true l else q :: goP q true l := by
  have hb : Op.bytesLess q.s n.s = false := by rw [h]; exact bl_irr _
  rw [goP, if_neg (by rw [hb]; simp), if_pos h]
theorem goP_keep {q n : Nod} {l : List Nod} {d : Bool} (h1 : d = true ∨ Op.bytesLess q.s n.s = false) (h : n.s ≠ q.s) : goP q d (n :: l) = n :: goP q d l := by
  rw [goP, if_neg (by rcases h1 with h1 | h1 <;> rw [h1] <;> simp), if_neg h]

set_option maxHeartbeats 2000000 in
theorem specPutAny (A : Option Addr) (n c : Nat) (l : List Nod) (s : ByteArray) (x y : Int) (w : World) (hn : n ≤ 1100000) (hl : l.length = n) (ha : At encN 3 w A l) :
    Calls Tryd.prog 95 #[.slice A n c, .string s, .agg #[.int .i64 x, .int .i64 y]] w (OutR encN 3 73 (fun ys => ys = goP ⟨s, x, y⟩ (decide (x = 0)) l) w) := by
  obtain ⟨i0, hi0, hj0, hj1, hj2⟩ := info_parts infoN
  have HL := Lib.hid hl
  clear hl
  have P0 := Blk.new w 33 #[.int .i64 x, .int .i64 y]
  have bw0 := below_alloc (Below.refl w.heap.size w) (.cells #[.int .i64 x, .int .i64 y] 33)
  obtain ⟨g, hg⟩ : ∃ g, w.heap.size = g := ⟨_, rfl⟩
  obtain ⟨W0, hW0⟩ : ∃ W0, W0 = w.alloc (.cells #[.int .i64 x, .int .i64 y] 33) := ⟨_, rfl⟩
  rw [hg, ← hW0] at P0
  rw [← hW0] at bw0
  have hgW := P0.lt
  have hwW : w.heap.size ≤ W0.heap.size := bw0.size
  obtain ⟨d0, hd0⟩ : ∃ d0, decide (x = 0) = d0 := ⟨_, rfl⟩
  have HD0 := Lib.hid hd0
  have hx : (x == 0) = d0 := by rw [← hd0, Bool.eq_iff_iff]; simp
  clear hd0
  go_enter Tryd.func95, Tryd.ntmps95
  go_upto_region 1 with fail
  try rw [hg]
  rw [← hW0]
  clear hg hW0
  obtain ⟨p0, p1⟩ := blk2 P0
  go_upto_region 4 with fail
  clear p0 p1 hx
  go_loopw [7, 8, 9] (fun v d i wr => ∃ (k : Nat) (ys : List Nod) (dd : Bool), i = .int .i64 k ∧ d = .bool dd ∧ k ≤ n ∧ ys.length ≤ 2 * k ∧ Hid (ys ++ goP ⟨s, x, y⟩ dd (l.drop k) = goP ⟨s, x, y⟩ d0 l) ∧ wr.ownsRow W0.heap.size 73 3 v ys.length (ys.flatMap encN) ∧ Blk wr g 33 #[.int .i64 x, .int .i64 y] ∧ W0.heap.size ≤ wr.heap.size ∧ Below w.heap.size w wr) (fun _ _ i _ => n - (intOf i).toNat)
  case atStart => exact ⟨0, [], d0, rfl, rfl, Nat.zero_le _, Nat.le_refl _, Lib.hid (by simp), World.ownsRow_lit (base := W0.heap.size) (e := 73) (size := 3) W0 #[] 0 (Nat.le_refl _) (by decide) rfl, P0.alloc _, by rw [World.size_alloc]; omega, below_alloc bw0 _⟩
  case round =>
    clear P0 bw0
    obtain ⟨k, ys, dd, rfl, rfl, hk, hys, HY, ho, PB, hsz, hbw⟩ := hrel
    obtain ⟨p0, p1⟩ := blk2 PB
    have hnN := at_new (enc := encN) wr encN_len [⟨s, x, y⟩] 73 #[.string s, .int .i64 x, .int .i64 y] rfl (by unfold maxLen; simp)
    have hoN := ho.alloc (.cells #[.string s, .int .i64 x, .int .i64 y] 73)
    by_cases hlt : k < n
    · have hlk : k < l.length := by rw [HL.out]; exact hlt
      have hidx := fun W => run_index_any (c := c) Tryd.underlying29 hi0 hj1 (ha.addr (by omega)) hlt W
      obtain ⟨q, hq⟩ : ∃ q, l[k] = q := ⟨_, rfl⟩
      have HQ := Lib.hid hq
      have HDR := Lib.hid (show l.drop k = q :: l.drop (k + 1) by rw [List.drop_eq_getElem_cons hlk, hq])
      obtain ⟨c0, c1, c2⟩ := at3 (ha.belowS hbw) hlk hq
      clear hq
      have hnQ := at_new (enc := encN) wr encN_len [q] 73 #[.string q.p, .int .i64 q.x, .int .i64 q.y] rfl (by unfold maxLen; simp)
      have hoQ := ho.alloc (.cells #[.string q.p, .int .i64 q.x, .int .i64 q.y] 73)
      obtain ⟨r1, hr1⟩ : ∃ r1, Op.bytesLess s.data.toList q.p.data.toList = r1 := ⟨_, rfl⟩
      have HR1 := Lib.hid hr1
      have hl1 : Op.bytesLess s.toList q.p.toList = r1 := by rw [toList_is rfl, toList_is rfl]; exact hr1
      obtain ⟨r2, hr2⟩ : ∃ r2, decide (q.p.data.toList = s.data.toList) = r2 := ⟨_, rfl⟩
      have HR2 := Lib.hid hr2
      have hl2 : (q.p.toList == s.toList) = r2 := by rw [toList_is rfl, toList_is rfl, ← hr2, Bool.eq_iff_iff]; simp
      clear hr1 hr2

      cases r2 with
      | true =>
        have HE := Lib.hid (show q.s = (⟨s, x, y⟩ : Nod).s from of_decide_eq_true HR2.out)
        have hr1f : r1 = false := by rw [← HR1.out, of_decide_eq_true HR2.out]; exact bl_irr _
        subst hr1f
        cases dd with
        | true =>
          have HN := Lib.hid (show ys ++ goP ⟨s, x, y⟩ true (l.drop (k + 1)) = goP ⟨s, x, y⟩ d0 l by rw [← HY.out, HDR.out, goP_same (q := ⟨s, x, y⟩) (n := q) HE.out, if_pos rfl])
          go_wp2_with fail
          go_roundw
          case rel => exact ⟨k + 1, ys, true, by go_num, rfl, by omega, by omega, HN, ho, PB, hsz, hbw⟩
          case measure => simp [intOf]; omega
        | false =>
          have HN := Lib.hid (show ys ++ [⟨s, x, y⟩] ++ goP ⟨s, x, y⟩ true (l.drop (k + 1)) = goP ⟨s, x, y⟩ d0 l by rw [← HY.out, HDR.out, goP_same (q := ⟨s, x, y⟩) (n := q) HE.out, if_neg (by simp)]; simp)
          go_wp2_with (at_builtin; refine wpList_append_at _ rfl _ _ 29 rfl W0.heap.size 73 i0 (.agg #[.string ByteArray.empty, .int .i64 0, .int .i64 0]) 3 32 Tryd.underlying29 hi0 hj0 hj1 hj2 rfl (by decide) _ ys.length _ rfl hoN encN_len encN_one _ 1 1 [⟨s, x, y⟩] rfl rfl hnN (by unfold maxLen; omega) (by omega) (by simp; omega) ?_; intro v3 w3 ho3 hg3 hv3)
          go_roundw
          case rel => exact ⟨k + 1, ys ++ [⟨s, x, y⟩], true, by go_num, rfl, by omega, by simp; omega, HN, by rw [List.length_append, List.flatMap_append]; exact ho3, (PB.alloc _).grown hg3 (fun he => by have := own_ge (w := W0) ho g he.symm; omega), by have := hg3.size; simp at this; omega, below_app (w := w) (below_alloc hbw _) hg3 (own_ge (own_mono ho hwW))⟩
          case measure => simp [intOf]; omega
      | false =>
        have HE := Lib.hid (show q.s ≠ (⟨s, x, y⟩ : Nod).s from of_decide_eq_false HR2.out)
        cases dd with
        | true =>
          have HN := Lib.hid (show ys ++ [q] ++ goP ⟨s, x, y⟩ true (l.drop (k + 1)) = goP ⟨s, x, y⟩ d0 l by rw [← HY.out, HDR.out, goP_keep (q := ⟨s, x, y⟩) (n := q) (.inl rfl) HE.out]; simp)
          go_wp2_with (at_builtin; refine wpList_append_at _ rfl _ _ 29 rfl W0.heap.size 73 i0 (.agg #[.string ByteArray.empty, .int .i64 0, .int .i64 0]) 3 32 Tryd.underlying29 hi0 hj0 hj1 hj2 rfl (by decide) _ ys.length _ rfl hoQ encN_len encN_one _ 1 1 [q] rfl rfl hnQ (by unfold maxLen; omega) (by omega) (by simp; omega) ?_; intro v3 w3 ho3 hg3 hv3)
          go_roundw
          case rel => exact ⟨k + 1, ys ++ [q], true, by go_num, rfl, by omega, by simp; omega, HN, by rw [List.length_append, List.flatMap_append]; exact ho3, (PB.alloc _).grown hg3 (fun he => by have := own_ge (w := W0) ho g he.symm; omega), by have := hg3.size; simp at this; omega, below_app (w := w) (below_alloc hbw _) hg3 (own_ge (own_mono ho hwW))⟩
          case measure => simp [intOf]; omega
        | false =>
          cases r1 with
          | false =>
            have HN := Lib.hid (show ys ++ [q] ++ goP ⟨s, x, y⟩ false (l.drop (k + 1)) = goP ⟨s, x, y⟩ d0 l by rw [← HY.out, HDR.out, goP_keep (q := ⟨s, x, y⟩) (n := q) (.inr HR1.out) HE.out]; simp)
            go_wp2_with (at_builtin; refine wpList_append_at _ rfl _ _ 29 rfl W0.heap.size 73 i0 (.agg #[.string ByteArray.empty, .int .i64 0, .int .i64 0]) 3 32 Tryd.underlying29 hi0 hj0 hj1 hj2 rfl (by decide) _ ys.length _ rfl hoQ encN_len encN_one _ 1 1 [q] rfl rfl hnQ (by unfold maxLen; omega) (by omega) (by simp; omega) ?_; intro v3 w3 ho3 hg3 hv3)
            go_roundw
            case rel => exact ⟨k + 1, ys ++ [q], false, by go_num, rfl, by omega, by simp; omega, HN, by rw [List.length_append, List.flatMap_append]; exact ho3, (PB.alloc _).grown hg3 (fun he => by have := own_ge (w := W0) ho g he.symm; omega), by have := hg3.size; simp at this; omega, below_app (w := w) (below_alloc hbw _) hg3 (own_ge (own_mono ho hwW))⟩
            case measure => simp [intOf]; omega
          | true =>
            have HN := Lib.hid (show ys ++ [⟨s, x, y⟩] ++ [q] ++ goP ⟨s, x, y⟩ true (l.drop (k + 1)) = goP ⟨s, x, y⟩ d0 l by rw [← HY.out, HDR.out, goP_ins (q := ⟨s, x, y⟩) (n := q) HR1.out]; simp)
            go_wp2_with (first | (at_builtin; refine wpList_append_at _ rfl _ _ 29 rfl W0.heap.size 73 i0 (.agg #[.string ByteArray.empty, .int .i64 0, .int .i64 0]) 3 32 Tryd.underlying29 hi0 hj0 hj1 hj2 rfl (by decide) _ ys.length _ rfl hoN encN_len encN_one _ 1 1 [⟨s, x, y⟩] rfl rfl hnN (by unfold maxLen; omega) (by omega) (by simp; omega) ?_; intro v3 w3 ho3 hg3 hv3; have bw3 := below_app (w := w) (below_alloc hbw _) hg3 (own_ge (own_mono ho hwW)); have PB3 := (PB.alloc _).grown hg3 (fun he => by have := own_ge (w := W0) ho g he.symm; omega); obtain ⟨e0, e1, e2⟩ := at3 (ha.belowS bw3) hlk HQ.out; have hsz3 : W0.heap.size ≤ w3.heap.size := (by have h1 := hg3.size; simp at h1; omega)) | (at_builtin; refine wpList_append_at _ rfl _ _ 29 rfl W0.heap.size 73 i0 (.agg #[.string ByteArray.empty, .int .i64 0, .int .i64 0]) 3 32 Tryd.underlying29 hi0 hj0 hj1 hj2 rfl (by decide) _ (ys.length + 1) _ rfl (ho3.alloc (.cells #[.string q.p, .int .i64 q.x, .int .i64 q.y] 73)) encN_len encN_one _ 1 1 [q] rfl rfl (at_new (enc := encN) w3 encN_len [q] 73 #[.string q.p, .int .i64 q.x, .int .i64 q.y] rfl (by unfold maxLen; simp)) (by unfold maxLen; omega) (by omega) (by simp; omega) ?_; intro v4 w4 ho4 hg4 hv4))
            go_roundw
            case rel => exact ⟨k + 1, ys ++ [⟨s, x, y⟩] ++ [q], true, by go_num, rfl, by omega, by simp; omega, HN, by rw [List.length_append, List.flatMap_append, List.length_append, List.flatMap_append]; exact ho4, (PB3.alloc _).grown hg4 (fun he => by have := own_ge (w := W0) ho3 g he.symm; omega), by have h1 := hg4.size; simp at h1; omega, below_app (w := w) (below_alloc bw3 _) hg4 (own_ge (own_mono ho3 hwW))⟩
            case measure => simp [intOf]; omega
    · obtain rfl : n = k := by omega
      have hdn : l.drop n = [] := List.drop_of_length_le (by rw [HL.out]; exact Nat.le_refl _)
      cases dd with
      | true =>
        have HN := Lib.hid (show ys = goP ⟨s, x, y⟩ (decide (x = 0)) l by have := HY.out; rw [hdn, goP_nil, if_pos rfl, List.append_nil] at this; rw [HD0.out]; exact this)
        clear hdn
        go_wp2_with fail
        go_ret
        exact OutR.of rfl HN.out (own_mono ho hwW) hbw
      | false =>
        have HN := Lib.hid (show ys ++ [⟨s, x, y⟩] = goP ⟨s, x, y⟩ (decide (x = 0)) l by have := HY.out; rw [hdn, goP_nil, if_neg (by simp)] at this; rw [HD0.out]; exact this)
        clear hdn
        go_wp2_with (at_builtin; refine wpList_append_at _ rfl _ _ 29 rfl W0.heap.size 73 i0 (.agg #[.string ByteArray.empty, .int .i64 0, .int .i64 0]) 3 32 Tryd.underlying29 hi0 hj0 hj1 hj2 rfl (by decide) _ ys.length _ rfl hoN encN_len encN_one _ 1 1 [⟨s, x, y⟩] rfl rfl hnN (by unfold maxLen; omega) (by omega) (by simp; omega) ?_; intro v3 w3 ho3 hg3 hv3)
        go_ret
        exact OutR.of (n := ys.length + 1) (by simp) HN.out (by rw [List.flatMap_append]; exact own_mono ho3 hwW) (below_app (w := w) (below_alloc hbw _) hg3 (own_ge (own_mono ho hwW)))

/-- What TreePut answers. -/
def PutG (l : List Nod) (q : Nod) : Prop := (TreeP l ∧ 0 < depthL q.s ∧ okC q.x q.y = true) ∧ TreeP (putL l q)
def PutR (l : List Nod) (q : Nod) (ys : List Nod) (b : Bool) : Prop := b = true ∧ PutG l q ∧ ys = putL l q ∨ b = false ∧ ¬ PutG l q ∧ ys = []
theorem PutR.same {l : List Nod} {q : Nod} {a b : List Nod} {c d : Bool} (h : PutR l q a c) (k : PutR l q b d) : a = b ∧ c = d := by
  rcases h with ⟨rfl, h, rfl⟩ | ⟨rfl, h, rfl⟩ <;> rcases k with ⟨rfl, k, rfl⟩ | ⟨rfl, k, rfl⟩
  · exact ⟨rfl, rfl⟩
  · exact absurd h k
  · exact absurd k h
  · exact ⟨rfl, rfl⟩
theorem PutR.len {l : List Nod} {q : Nod} {a : List Nod} {c : Bool} (h : PutR l q a c) : a.length ≤ l.length + 1 := by
  rcases h with ⟨_, _, rfl⟩ | ⟨_, _, rfl⟩
  · exact put_len l q
  · exact Nat.zero_le _

set_option maxHeartbeats 2000000 in
theorem specTreePut_any (A : Option Addr) (n c : Nat) (l : List Nod) (s : ByteArray) (x y : Int) (w : World) (hn : n ≤ 1099999) (hl : l.length = n) (ha : At encN 3 w A l) (hz : ∀ q ∈ l, q.p.size ≤ 1048576) (hs : s.size ≤ 1048576) :
    Calls Tryd.prog 52 #[.slice A n c, .string s, .agg #[.int .i64 x, .int .i64 y]] w (OutB encN 3 73 (PutR l ⟨s, x, y⟩) w) := by
  have HL := Lib.hid hl
  clear hl
  have P0 := Blk.new w 33 #[.int .i64 x, .int .i64 y]
  have bw0 := below_alloc (Below.refl w.heap.size w) (.cells #[.int .i64 x, .int .i64 y] 33)
  obtain ⟨g, hg⟩ : ∃ g, w.heap.size = g := ⟨_, rfl⟩
  obtain ⟨W0, hW0⟩ : ∃ W0, W0 = w.alloc (.cells #[.int .i64 x, .int .i64 y] 33) := ⟨_, rfl⟩
  rw [hg, ← hW0] at P0
  rw [← hW0] at bw0
  obtain ⟨D, hD⟩ : ∃ D, depthL s.data.toList = D := ⟨_, rfl⟩
  have HD := Lib.hid hD
  obtain ⟨oc, hoc⟩ : ∃ oc, okC x y = oc := ⟨_, rfl⟩
  have HOC := Lib.hid hoc
  clear hD hoc
  go_enter Tryd.func52, Tryd.ntmps52
  go_upto_region 1 with fail
  try rw [hg]
  rw [← hW0]
  clear hg hW0
  go_wp2_with fail
  refine (specTree_any A n c l _ (by omega) HL.out (ha.belowS bw0) hz).mono ?_
  rintro e w1 ⟨b, rfl, hb, hb1⟩
  have bw1 := below_step bw0 hb1
  have P1 := P0.belowS hb1
  have HB := Lib.hid hb
  clear hb P0
  cases b with
  | false =>
    have HN := Lib.hid (show ¬ PutG l ⟨s, x, y⟩ from fun h => by have := HB.out.2 h.1.1; cases this)
    go_wp2_with fail
    refine bodyPost_ret (v := .tuple #[.slice (some ⟨w1.heap.size, 0, none⟩) 0 0, .bool false]) (by simp [results, Tryd.results52, go_sem]) rfl ?_
    exact OutB.lit (.inr ⟨rfl, HN.out, rfl⟩) bw1
  | true =>
    go_wp2_with fail
    refine (specDepth_any s _ hs).mono ?_
    rw [HD.out]
    rintro e w2 ⟨rfl, hb2⟩
    have bw2 := below_step bw1 hb2
    have P2 := P1.belowS hb2
    clear P1
    by_cases hd : D < 1
    · have HN := Lib.hid (show ¬ PutG l ⟨s, x, y⟩ from fun h => by have h1 : 0 < depthL s.data.toList := h.1.2.1; rw [HD.out] at h1; omega)
      have hd' : decide (D < 1) = true := decide_eq_true hd
      go_wp2_with fail
      refine bodyPost_ret (v := .tuple #[.slice (some ⟨w2.heap.size, 0, none⟩) 0 0, .bool false]) (by simp [results, Tryd.results52, go_sem]) rfl ?_
      exact OutB.lit (.inr ⟨rfl, HN.out, rfl⟩) bw2
    have hd' : decide (D < 1) = false := decide_eq_false hd
    obtain ⟨p0, p1⟩ := blk2 P2
    go_wp2_with fail
    refine (specContentValid_any x y _).mono ?_
    rw [HOC.out]
    rintro e w3 ⟨rfl, hb3⟩
    have bw3 := below_step bw2 hb3
    have P3 := P2.belowS hb3
    clear P2 p0 p1
    cases oc with
    | false =>
      have HN := Lib.hid (show ¬ PutG l ⟨s, x, y⟩ from fun h => by have h1 := h.1.2.2; rw [HOC.out] at h1; cases h1)
      go_wp2_with fail
      refine bodyPost_ret (v := .tuple #[.slice (some ⟨w3.heap.size, 0, none⟩) 0 0, .bool false]) (by simp [results, Tryd.results52, go_sem]) rfl ?_
      exact OutB.lit (.inr ⟨rfl, HN.out, rfl⟩) bw3
    | true =>
      have HG := Lib.hid (show TreeP l ∧ 0 < depthL s.data.toList ∧ okC x y = true from ⟨HB.out.1 (by first | rfl | trivial), by rw [HD.out]; omega, HOC.out⟩)
      obtain ⟨p0, p1⟩ := blk2 P3
      go_wp2_with fail
      refine (specPutAny A n c l s x y _ (by omega) HL.out (ha.belowS bw3)).mono ?_
      rintro e w4 ⟨A4, c4, ys, rfl, hys, ho4, hb4⟩
      have bw4 := below_step bw3 hb4
      have HY := Lib.hid (show ys = putL l ⟨s, x, y⟩ from hys.trans (goP_put HG.out.1.sorted ⟨s, x, y⟩))
      have at4 := own_at encN_len ho4 rfl
      have hy0 : ys.length ≤ n + 1 := by rw [HY.out, ← HL.out]; exact put_len _ _
      have hyz : ∀ q ∈ ys, q.p.size ≤ 1048576 := fun q hq => by
        rw [HY.out] at hq
        rcases put_mem hq with rfl | h
        · exact hs
        · exact hz q h
      have ho5 := own_mono ho4 bw3.size
      clear hys P3 p0 p1
      go_wp2_with fail
      refine (specTree_any A4 ys.length c4 ys _ (by omega) rfl at4 hyz).mono ?_
      rintro e w5 ⟨b, rfl, hb, hb5⟩
      have bw5 := below_step bw4 hb5
      have HB5 := Lib.hid hb
      have ho6 := own_belowS ho5 hb5
      clear hb
      cases b with
      | false =>
        have HN := Lib.hid (show ¬ PutG l ⟨s, x, y⟩ from fun h => by have h1 := h.2; rw [← HY.out] at h1; have := HB5.out.2 h1; cases this)
        go_wp2_with fail
        refine bodyPost_ret (v := .tuple #[.slice (some ⟨w5.heap.size, 0, none⟩) 0 0, .bool false]) (by simp [results, Tryd.results52, go_sem]) rfl ?_
        exact OutB.lit (.inr ⟨rfl, HN.out, rfl⟩) bw5
      | true =>
        have HN := Lib.hid (show PutG l ⟨s, x, y⟩ from ⟨HG.out, by rw [← HY.out]; exact HB5.out.1 (by first | rfl | trivial)⟩)
        go_wp2_with fail
        refine bodyPost_ret (v := .tuple #[.slice A4 ys.length c4, .bool true]) (by simp [results, Tryd.results52, go_sem]) rfl ?_
        exact ⟨A4, c4, ys, true, rfl, .inl ⟨rfl, HN.out, HY.out⟩, ho6, bw5⟩
end Go.Proofs.YtlhhplhciiobfaaDoor
