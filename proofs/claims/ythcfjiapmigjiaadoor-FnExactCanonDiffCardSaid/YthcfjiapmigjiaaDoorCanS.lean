/- The reference's sorting in canonical order. -/
import Derived.Test.YthcfjiapmigjiaaDoorCanE
import Derived.Test.YthcfjiapmigjiaaDoorQ
namespace Go.Proofs.YthcfjiapmigjiaaDoor
open Go.RowKit
set_option linter.unusedVariables false
set_option linter.unusedSimpArgs false
set_option maxRecDepth 20000

def goK (q : Cmd) (d : Bool) (l : List Cmd) : List Cmd := if d = true then l else putR q l
theorem goK_done (q : Cmd) (l : List Cmd) : goK q true l = l := rfl
theorem goK_nil (q : Cmd) (d : Bool) : goK q d [] = if d = true then [] else [q] := by cases d <;> rfl
theorem goK_ins {q n : Cmd} {l : List Cmd} (h : befC q n = true) : goK q false (n :: l) = q :: n :: goK q true l := by
  unfold goK
  rw [if_neg (by simp), if_pos rfl, putR, if_pos h]
theorem goK_keep {q n : Cmd} {l : List Cmd} (h : befC q n = false) : goK q false (n :: l) = n :: goK q false l := by
  unfold goK
  rw [if_neg (by simp), if_neg (by simp), putR, if_neg (by rw [h]; simp)]

set_option maxHeartbeats 4000000 in
theorem specPut14_any (A : Option Addr) (n c : Nat) (l : List Cmd) (s : ByteArray) (x y z u : Int) (w : World) (hn : n ≤ 4194304) (hl : l.length = n) (ha : At encK 5 w A l) :
    Calls Tryd.prog 50 #[.slice A n c, .agg #[.string s, .int .i64 x, .int .i64 y, .int .i64 z, .int .i64 u]] w (OutR encK 5 52 (fun ys => ys = putR ⟨s, x, y, z, u⟩ l) w) := by
  obtain ⟨i0, hi0, hj0, hj1, hj2⟩ := info_parts infoK
  have HL := Lib.hid hl
  clear hl
  have P0 := Blk.new w 52 #[.string s, .int .i64 x, .int .i64 y, .int .i64 z, .int .i64 u]
  have bw0 := below_alloc (Below.refl w.heap.size w) (.cells #[.string s, .int .i64 x, .int .i64 y, .int .i64 z, .int .i64 u] 52)
  obtain ⟨g, hg⟩ : ∃ g, w.heap.size = g := ⟨_, rfl⟩
  obtain ⟨W0, hW0⟩ : ∃ W0, W0 = w.alloc (.cells #[.string s, .int .i64 x, .int .i64 y, .int .i64 z, .int .i64 u] 52) := ⟨_, rfl⟩
  rw [hg, ← hW0] at P0
  rw [← hW0] at bw0
  have hgW := P0.lt
  have hwW : w.heap.size ≤ W0.heap.size := bw0.size
  go_enter Tryd.func50, Tryd.ntmps50
  go_upto_region 1 with fail
  try rw [hg]
  rw [← hW0]
  clear hg hW0
  go_wp2_with fail
  go_loopw [5, 6, 7] (fun v d i wr => ∃ (k : Nat) (ys : List Cmd) (dd : Bool), i = .int .i64 k ∧ d = .bool dd ∧ k ≤ n ∧ ys.length ≤ k + 1 ∧ Hid (ys ++ goK ⟨s, x, y, z, u⟩ dd (l.drop k) = putR ⟨s, x, y, z, u⟩ l) ∧ (dd = false → ys.length ≤ k) ∧ wr.ownsRow W0.heap.size 52 5 v ys.length (ys.flatMap encK) ∧ Blk wr g 52 #[.string s, .int .i64 x, .int .i64 y, .int .i64 z, .int .i64 u] ∧ W0.heap.size ≤ wr.heap.size ∧ Below w.heap.size w wr) (fun _ _ i _ => n - (intOf i).toNat)
  case atStart => exact ⟨0, [], false, rfl, rfl, Nat.zero_le _, Nat.zero_le _, Lib.hid (by simp [goK]), fun _ => Nat.le_refl _, World.ownsRow_lit (base := W0.heap.size) (e := 52) (size := 5) W0 #[] 0 (Nat.le_refl _) (by decide) rfl, P0.alloc _, by rw [World.size_alloc]; omega, below_alloc bw0 _⟩
  case round =>
    clear P0 bw0
    obtain ⟨k, ys, dd, rfl, rfl, hk, hys, HY, hyf, ho, PB, hsz, hbw⟩ := hrel
    by_cases hlt : k < n
    · have hlk : k < l.length := by rw [HL.out]; exact hlt
      have hidx := fun W => run_index_any (c := c) Tryd.underlying24 hi0 hj1 (ha.addr (by omega)) hlt W
      obtain ⟨q, hq⟩ : ∃ q, l[k] = q := ⟨_, rfl⟩
      have HQ := Lib.hid hq
      have HDR := Lib.hid (show l.drop k = q :: l.drop (k + 1) by rw [List.drop_eq_getElem_cons hlk, hq])
      clear hq
      cases dd with
      | true =>
        have HN := Lib.hid (show ys ++ [q] ++ goK ⟨s, x, y, z, u⟩ true (l.drop (k + 1)) = putR ⟨s, x, y, z, u⟩ l by rw [← HY.out, HDR.out, goK_done, goK_done]; simp)
        go_upto_region 6 with fail
        obtain ⟨C, hC⟩ : ∃ C : World → Prop, C = fun w' => Blk w' g 52 #[.string s, .int .i64 x, .int .i64 y, .int .i64 z, .int .i64 u] ∧ Below (wr.drew).heap.size (wr.drew) w' := ⟨_, rfl⟩
        have HC1 := Lib.hid (show ∀ w', C w' → Blk w' g 52 #[.string s, .int .i64 x, .int .i64 y, .int .i64 z, .int .i64 u] ∧ Below (wr.drew).heap.size (wr.drew) w' by rw [hC]; exact fun _ h => h)
        have HC2 := Lib.hid (show ∀ w', Blk w' g 52 #[.string s, .int .i64 x, .int .i64 y, .int .i64 z, .int .i64 u] ∧ Below (wr.drew).heap.size (wr.drew) w' → C w' by rw [hC]; exact fun _ h => h)
        clear hC
        refine region_class C (by kernel_rfl) (by kernel_rfl) (HC2.out _ ⟨(PB.drewN 1), Below.refl _ _⟩) ?_
        repeat (first
          | go_big_quiet_skip
          | (go_big_quiet_want; go_big_quiet_op; first
              | go_big_quiet_on
              | (apply Exists.intro; refine ⟨?_, ?_⟩; (rintro ⟨w', hw'⟩; with_reducible rfl); go_big_quiet_on)
              | (apply Exists.intro; refine ⟨fun w' hw' => ?_, ?_⟩; (obtain ⟨k0, kb⟩ := HC1.out w' hw'; first
                  | (with_reducible rfl)
                  | (go_simp; with_reducible rfl)); go_big_quiet_on)))
        refine wpQuiet_nil ?_
        intro w3 hw3
        obtain ⟨k0, kb⟩ := HC1.out w3 hw3
        clear HC1 HC2 hw3
        have hb3 := below_step hbw.drew kb
        have ho' := own_belowS (show wr.drew.ownsRow W0.heap.size 52 5 u5 ys.length (ys.flatMap encK) from ho) kb
        have hsz3 := Nat.le_trans hsz (show wr.heap.size ≤ w3.heap.size from kb.size)
        obtain ⟨c0, c1, c2, c3, c4⟩ := at5 (ha.belowS hb3) hlk HQ.out
        have hnQ := at_new (enc := encK) w3 encK_len [q] 52 #[.string q.p, .int .i64 q.x, .int .i64 q.y, .int .i64 q.z, .int .i64 q.u] rfl (by unfold maxLen; simp)
        have hoQ := ho'.alloc (.cells #[.string q.p, .int .i64 q.x, .int .i64 q.y, .int .i64 q.z, .int .i64 q.u] 52)
        go_wp2_with (at_builtin; refine wpList_append_at _ rfl _ _ 24 rfl W0.heap.size 52 i0 (.agg #[.string ByteArray.empty, .int .i64 0, .int .i64 0, .int .i64 0, .int .i64 0]) 5 48 Tryd.underlying24 hi0 hj0 hj1 hj2 rfl (by decide) _ ys.length _ rfl hoQ encK_len encK_one _ 1 1 [q] rfl rfl hnQ (by unfold maxLen; omega) (by omega) (by simp; omega) ?_; intro v4 w4 ho4 hg4 hv4)
        go_roundw
        case rel => exact ⟨k + 1, ys ++ [q], true, by go_num, rfl, by omega, by simp; omega, HN, (fun h => by cases h), by rw [List.length_append, List.flatMap_append]; exact ho4, (k0.alloc _).grown hg4 (fun he => by have := own_ge (w := W0) ho' g he.symm; omega), by have := hg4.size; simp at this; omega, below_app (w := w) (below_alloc hb3 _) hg4 (own_ge (own_mono ho' hwW))⟩
        case measure => simp [intOf]; omega
      | false =>
        have hyk := hyf rfl
        obtain ⟨r, hr⟩ : ∃ r, befC ⟨s, x, y, z, u⟩ q = r := ⟨_, rfl⟩
        have HR := Lib.hid hr
        have HRB := Lib.hid (show befB s.toList x z q.p.toList q.x q.z = r by rw [toList_is rfl, toList_is (s := q.p) rfl]; exact hr)
        clear hr
        obtain ⟨c0, c1, c2, c3, c4⟩ := at5 (ha.belowS hbw.drew) hlk HQ.out
        obtain ⟨p0, p1, p2, p3, p4⟩ := blk5 (PB.drewN 1)
        go_upto_region 6 with fail
        obtain ⟨C, hC⟩ : ∃ C : World → Prop, C = fun w' => w'.cell? ⟨blk A, off A + k * 5, none⟩ = some (.string q.p) ∧ w'.cell? ⟨blk A, off A + k * 5 + 1, none⟩ = some (.int .i64 q.x) ∧ w'.cell? ⟨blk A, off A + k * 5 + 2, none⟩ = some (.int .i64 q.y) ∧ w'.cell? ⟨blk A, off A + k * 5 + 3, none⟩ = some (.int .i64 q.z) ∧ w'.cell? ⟨blk A, off A + k * 5 + 4, none⟩ = some (.int .i64 q.u) ∧ w'.cell? ⟨g, 0, none⟩ = some (.string s) ∧ w'.cell? ⟨g, 1, none⟩ = some (.int .i64 x) ∧ w'.cell? ⟨g, 2, none⟩ = some (.int .i64 y) ∧ w'.cell? ⟨g, 3, none⟩ = some (.int .i64 z) ∧ w'.cell? ⟨g, 4, none⟩ = some (.int .i64 u) ∧ Below (wr.drew).heap.size (wr.drew) w' := ⟨_, rfl⟩
        have HC1 := Lib.hid (show ∀ w', C w' → w'.cell? ⟨blk A, off A + k * 5, none⟩ = some (.string q.p) ∧ w'.cell? ⟨blk A, off A + k * 5 + 1, none⟩ = some (.int .i64 q.x) ∧ w'.cell? ⟨blk A, off A + k * 5 + 2, none⟩ = some (.int .i64 q.y) ∧ w'.cell? ⟨blk A, off A + k * 5 + 3, none⟩ = some (.int .i64 q.z) ∧ w'.cell? ⟨blk A, off A + k * 5 + 4, none⟩ = some (.int .i64 q.u) ∧ w'.cell? ⟨g, 0, none⟩ = some (.string s) ∧ w'.cell? ⟨g, 1, none⟩ = some (.int .i64 x) ∧ w'.cell? ⟨g, 2, none⟩ = some (.int .i64 y) ∧ w'.cell? ⟨g, 3, none⟩ = some (.int .i64 z) ∧ w'.cell? ⟨g, 4, none⟩ = some (.int .i64 u) ∧ Below (wr.drew).heap.size (wr.drew) w' by rw [hC]; exact fun _ h => h)
        have HC2 := Lib.hid (show ∀ w', w'.cell? ⟨blk A, off A + k * 5, none⟩ = some (.string q.p) ∧ w'.cell? ⟨blk A, off A + k * 5 + 1, none⟩ = some (.int .i64 q.x) ∧ w'.cell? ⟨blk A, off A + k * 5 + 2, none⟩ = some (.int .i64 q.y) ∧ w'.cell? ⟨blk A, off A + k * 5 + 3, none⟩ = some (.int .i64 q.z) ∧ w'.cell? ⟨blk A, off A + k * 5 + 4, none⟩ = some (.int .i64 q.u) ∧ w'.cell? ⟨g, 0, none⟩ = some (.string s) ∧ w'.cell? ⟨g, 1, none⟩ = some (.int .i64 x) ∧ w'.cell? ⟨g, 2, none⟩ = some (.int .i64 y) ∧ w'.cell? ⟨g, 3, none⟩ = some (.int .i64 z) ∧ w'.cell? ⟨g, 4, none⟩ = some (.int .i64 u) ∧ Below (wr.drew).heap.size (wr.drew) w' → C w' by rw [hC]; exact fun _ h => h)
        clear hC
        refine region_class C (by kernel_rfl) (by kernel_rfl) (HC2.out _ ⟨c0, c1, c2, c3, c4, p0, p1, p2, p3, p4, Below.refl _ _⟩) ?_
        repeat (first
          | go_big_quiet_skip
          | (go_big_quiet_want; go_big_quiet_op; first
              | go_big_quiet_on
              | (apply Exists.intro; refine ⟨?_, ?_⟩; (rintro ⟨w', hw'⟩; with_reducible rfl); go_big_quiet_on)
              | (apply Exists.intro; refine ⟨fun w' hw' => ?_, ?_⟩; (obtain ⟨k0, k1, k2, k3, k4, k5, k6, k7, k8, k9, kb⟩ := HC1.out w' hw'; first
                  | (with_reducible rfl)
                  | (go_at_call 68; refine (specBefore_any s x y z u q.p q.x q.y q.z q.u _).mono ?_; rw [HRB.out]; rintro e w2 ⟨rfl, hb⟩; exact ⟨rfl, HC2.out _ ⟨cell_later hb k0, cell_later hb k1, cell_later hb k2, cell_later hb k3, cell_later hb k4, cell_later hb k5, cell_later hb k6, cell_later hb k7, cell_later hb k8, cell_later hb k9, below_step kb hb⟩⟩)
                  | (go_simp; with_reducible rfl)); go_big_quiet_on)))
        refine wpQuiet_nil ?_
        intro w3 hw3
        obtain ⟨k0, k1, k2, k3, k4, k5, k6, k7, k8, k9, kb⟩ := HC1.out w3 hw3
        clear HC1 HC2 hw3
        have hb3 := below_step hbw.drew kb
        have ho' := own_belowS (show wr.drew.ownsRow W0.heap.size 52 5 u5 ys.length (ys.flatMap encK) from ho) kb
        have PB3 := (PB.drewN 1).belowS kb
        have hsz3 := Nat.le_trans hsz (show wr.heap.size ≤ w3.heap.size from kb.size)
        clear c0 c1 c2 c3 c4 p0 p1 p2 p3 p4
        cases r with
        | false =>
          have HN := Lib.hid (show ys ++ [q] ++ goK ⟨s, x, y, z, u⟩ false (l.drop (k + 1)) = putR ⟨s, x, y, z, u⟩ l by rw [← HY.out, HDR.out, goK_keep HR.out]; simp)
          have hnQ := at_new (enc := encK) w3 encK_len [q] 52 #[.string q.p, .int .i64 q.x, .int .i64 q.y, .int .i64 q.z, .int .i64 q.u] rfl (by unfold maxLen; simp)
          have hoQ := ho'.alloc (.cells #[.string q.p, .int .i64 q.x, .int .i64 q.y, .int .i64 q.z, .int .i64 q.u] 52)
          go_wp2_with (at_builtin; refine wpList_append_at _ rfl _ _ 24 rfl W0.heap.size 52 i0 (.agg #[.string ByteArray.empty, .int .i64 0, .int .i64 0, .int .i64 0, .int .i64 0]) 5 48 Tryd.underlying24 hi0 hj0 hj1 hj2 rfl (by decide) _ ys.length _ rfl hoQ encK_len encK_one _ 1 1 [q] rfl rfl hnQ (by unfold maxLen; omega) (by omega) (by simp; omega) ?_; intro v4 w4 ho4 hg4 hv4)
          go_roundw
          case rel => exact ⟨k + 1, ys ++ [q], false, by go_num, rfl, by omega, by simp; omega, HN, (fun h => by simp; omega), by rw [List.length_append, List.flatMap_append]; exact ho4, (PB3.alloc _).grown hg4 (fun he => by have := own_ge (w := W0) ho' g he.symm; omega), by have := hg4.size; simp at this; omega, below_app (w := w) (below_alloc hb3 _) hg4 (own_ge (own_mono ho' hwW))⟩
          case measure => simp [intOf]; omega
        | true =>
          have HN := Lib.hid (show ys ++ [⟨s, x, y, z, u⟩] ++ [q] ++ goK ⟨s, x, y, z, u⟩ true (l.drop (k + 1)) = putR ⟨s, x, y, z, u⟩ l by rw [← HY.out, HDR.out, goK_ins HR.out]; simp)
          have hnN := at_new (enc := encK) w3 encK_len [⟨s, x, y, z, u⟩] 52 #[.string s, .int .i64 x, .int .i64 y, .int .i64 z, .int .i64 u] rfl (by unfold maxLen; simp)
          have hoN := ho'.alloc (.cells #[.string s, .int .i64 x, .int .i64 y, .int .i64 z, .int .i64 u] 52)
          go_wp2_with (first | (at_builtin; refine wpList_append_at _ rfl _ _ 24 rfl W0.heap.size 52 i0 (.agg #[.string ByteArray.empty, .int .i64 0, .int .i64 0, .int .i64 0, .int .i64 0]) 5 48 Tryd.underlying24 hi0 hj0 hj1 hj2 rfl (by decide) _ ys.length _ rfl hoN encK_len encK_one _ 1 1 [⟨s, x, y, z, u⟩] rfl rfl hnN (by unfold maxLen; omega) (by omega) (by simp; omega) ?_; intro v4 w4 ho4 hg4 hv4; have bw4 := below_app (w := w) (below_alloc hb3 _) hg4 (own_ge (own_mono ho' hwW)); have PB4 := (PB3.alloc _).grown hg4 (fun he => by have := own_ge (w := W0) ho' g he.symm; omega); obtain ⟨e0, e1, e2, e3, e4⟩ := at5 (ha.belowS bw4) hlk HQ.out; have hsz4 : W0.heap.size ≤ w4.heap.size := (by have h1 := hg4.size; simp at h1; omega)) | (at_builtin; refine wpList_append_at _ rfl _ _ 24 rfl W0.heap.size 52 i0 (.agg #[.string ByteArray.empty, .int .i64 0, .int .i64 0, .int .i64 0, .int .i64 0]) 5 48 Tryd.underlying24 hi0 hj0 hj1 hj2 rfl (by decide) _ (ys.length + 1) _ rfl (ho4.alloc (.cells #[.string q.p, .int .i64 q.x, .int .i64 q.y, .int .i64 q.z, .int .i64 q.u] 52)) encK_len encK_one _ 1 1 [q] rfl rfl (at_new (enc := encK) w4 encK_len [q] 52 #[.string q.p, .int .i64 q.x, .int .i64 q.y, .int .i64 q.z, .int .i64 q.u] rfl (by unfold maxLen; simp)) (by unfold maxLen; omega) (by omega) (by simp; omega) ?_; intro v5 w5 ho5 hg5 hv5))
          go_roundw
          case rel => exact ⟨k + 1, ys ++ [⟨s, x, y, z, u⟩] ++ [q], true, by go_num, rfl, by omega, by simp; omega, HN, (fun h => by cases h), by rw [List.length_append, List.flatMap_append, List.length_append, List.flatMap_append]; exact ho5, (PB4.alloc _).grown hg5 (fun he => by have := own_ge (w := W0) ho4 g he.symm; omega), by have h1 := hg5.size; simp at h1; omega, below_app (w := w) (below_alloc bw4 _) hg5 (own_ge (own_mono ho4 hwW))⟩
          case measure => simp [intOf]; omega
    · obtain rfl : n = k := by omega
      have hdn : l.drop n = [] := List.drop_of_length_le (by rw [HL.out]; exact Nat.le_refl _)
      cases dd with
      | true =>
        have HN := Lib.hid (show ys = putR ⟨s, x, y, z, u⟩ l by have := HY.out; rw [hdn, goK_nil, if_pos rfl, List.append_nil] at this; exact this)
        clear hdn
        go_wp2_with fail
        go_ret
        exact OutR.of rfl HN.out (own_mono ho hwW) hbw
      | false =>
        have HN := Lib.hid (show ys ++ [⟨s, x, y, z, u⟩] = putR ⟨s, x, y, z, u⟩ l by have := HY.out; rw [hdn, goK_nil, if_neg (by simp)] at this; exact this)
        clear hdn
        obtain ⟨p0, p1, p2, p3, p4⟩ := blk5 PB
        have hyk := hyf rfl
        have hnN := at_new (enc := encK) wr encK_len [⟨s, x, y, z, u⟩] 52 #[.string s, .int .i64 x, .int .i64 y, .int .i64 z, .int .i64 u] rfl (by unfold maxLen; simp)
        have hoN := ho.alloc (.cells #[.string s, .int .i64 x, .int .i64 y, .int .i64 z, .int .i64 u] 52)
        go_wp2_with (at_builtin; refine wpList_append_at _ rfl _ _ 24 rfl W0.heap.size 52 i0 (.agg #[.string ByteArray.empty, .int .i64 0, .int .i64 0, .int .i64 0, .int .i64 0]) 5 48 Tryd.underlying24 hi0 hj0 hj1 hj2 rfl (by decide) _ ys.length _ rfl hoN encK_len encK_one _ 1 1 [⟨s, x, y, z, u⟩] rfl rfl hnN (by unfold maxLen; omega) (by omega) (by simp; omega) ?_; intro v4 w4 ho4 hg4 hv4)
        go_ret
        exact OutR.of (n := ys.length + 1) (by simp) HN.out (by rw [List.flatMap_append]; exact own_mono ho4 hwW) (below_app (w := w) (below_alloc hbw _) hg4 (own_ge (own_mono ho hwW)))

set_option maxHeartbeats 1000000 in
theorem specSort14_any (A : Option Addr) (n c : Nat) (l : List Cmd) (w : World) (hn : n ≤ 4194304) (hl : l.length = n) (ha : At encK 5 w A l) :
    Calls Tryd.prog 25 #[.slice A n c] w (OutR encK 5 52 (fun ys => ys = sortR l) w) := by
  obtain ⟨i0, hi0, hj0, hj1, hj2⟩ := info_parts infoK
  have HL := Lib.hid hl
  clear hl
  go_enter Tryd.func25, Tryd.ntmps25
  go_wp2_with fail
  go_loopw [3, 4] (fun v i wr => ∃ (k : Nat) (ys : List Cmd), i = .int .i64 k ∧ k ≤ n ∧ Hid (ys.length = k) ∧ Hid (ys = sortR (l.take k)) ∧ wr.ownsRow w.heap.size 52 5 v ys.length (ys.flatMap encK) ∧ Below w.heap.size w wr) (fun _ i _ => n - (intOf i).toNat)
  case atStart => exact ⟨0, [], rfl, Nat.zero_le _, Lib.hid rfl, Lib.hid rfl, World.ownsRow_lit (base := w.heap.size) (e := 52) (size := 5) w #[] 0 (Nat.le_refl _) (by decide) rfl, below_alloc (Below.refl _ _) _⟩
  case round =>
    obtain ⟨k, ys, rfl, hk, hys, HY, ho, hbw⟩ := hrel
    by_cases hlt : k < n
    · have hlk : k < l.length := by rw [HL.out]; exact hlt
      have hidx := fun W => run_index_any (c := c) Tryd.underlying24 hi0 hj1 (ha.addr (by omega)) hlt W
      obtain ⟨q, hq⟩ : ∃ q, l[k] = q := ⟨_, rfl⟩
      have HN := Lib.hid (show putR q ys = sortR (l.take (k + 1)) by rw [take_snoc' l k hlk, sortR_snoc, hq, HY.out])
      obtain ⟨c0, c1, c2, c3, c4⟩ := at5 (ha.belowS hbw) hlk hq
      clear hq
      obtain ⟨B, d, rfl, -, -, -⟩ := own_form ho
      have atY := own_at encK_len ho rfl
      have hyn : ys.length ≤ 4194304 := by have := hys.out; omega
      go_wp2_with fail
      refine (specPut14_any B ys.length d ys q.p q.x q.y q.z q.u _ hyn rfl atY).mono ?_
      rintro e w1 ⟨B2, d2, ys2, rfl, hy2, ho2, hb2⟩
      have bw2 := below_step hbw hb2
      have hl2 := Lib.hid (show ys2.length = k + 1 by rw [hy2, (putR_perm _ _).length_eq, List.length_cons, hys.out])
      have HN2 := Lib.hid (hy2.trans HN.out)
      have ho3 := own_mono ho2 hbw.size
      clear hy2 ho atY c0 c1 c2 c3 c4
      go_wp2_with fail
      go_roundw
      case rel => exact ⟨k + 1, ys2, by go_num, by omega, hl2, HN2, ho3, bw2⟩
      case measure => simp [intOf]; omega
    · obtain rfl : n = k := by omega
      have HN := Lib.hid (show ys = sortR l by rw [HY.out, List.take_of_length_le (by rw [HL.out]; exact Nat.le_refl _)])
      go_wp2_with fail
      go_ret
      exact OutR.of rfl HN.out ho hbw
end Go.Proofs.YthcfjiapmigjiaaDoor
