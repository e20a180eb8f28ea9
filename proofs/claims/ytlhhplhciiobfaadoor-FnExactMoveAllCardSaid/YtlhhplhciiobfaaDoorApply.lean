/- A command applied to a tree, by both texts. -/
import Derived.Test.YtlhhplhciiobfaaDoorPutI
import Derived.Test.YtlhhplhciiobfaaDoorAppL
import Derived.Test.YtlhhplhciiobfaaDoorIf2
namespace Go.Proofs.YtlhhplhciiobfaaDoor
open Go.RowKit
set_option linter.unusedVariables false
set_option linter.unusedSimpArgs false
set_option maxRecDepth 20000

theorem OutB.of {α : Type} {enc : α → List Value} {k : Nat} {e : TypeId} {w w' : World} {A : Option Addr} {c n : Nat} {ys : List α} {R : List α → Bool → Prop} {b : Bool} (hn : ys.length = n) (hR : R ys b) (h : w'.ownsRow w.heap.size e k (.slice A n c) n (ys.flatMap enc)) (hb : Below w.heap.size w w') : OutB enc k e R w (.returned (.tuple #[.slice A n c, .bool b])) w' := by
  subst hn
  exact ⟨A, c, ys, b, rfl, hR, h, hb⟩

set_option maxHeartbeats 2000000 in
theorem specApply_any (A : Option Addr) (n c : Nat) (l : List Nod) (s : ByteArray) (x y z u : Int) (w : World) (hn : n ≤ 1048576) (hl : l.length = n) (ha : At encN 3 w A l) (hz : ∀ q ∈ l, q.p.size ≤ 1048576) (hs : s.size ≤ 1048576) :
    Calls Tryd.prog 16 #[.slice A n c, .agg #[.string s, .int .i64 x, .int .i64 y, .int .i64 z, .int .i64 u]] w (OutB encN 3 73 (CmdR l ⟨s, x, y, z, u⟩) w) := by
  obtain ⟨i0, hi0, hj0, hj1, hj2⟩ := info_parts infoN
  have HL := Lib.hid hl
  clear hl
  have P0 := Blk.new w 35 #[.string s, .int .i64 x, .int .i64 y, .int .i64 z, .int .i64 u]
  have bw0 := below_alloc (Below.refl w.heap.size w) (.cells #[.string s, .int .i64 x, .int .i64 y, .int .i64 z, .int .i64 u] 35)
  obtain ⟨g, hg⟩ : ∃ g, w.heap.size = g := ⟨_, rfl⟩
  obtain ⟨W0, hW0⟩ : ∃ W0, W0 = w.alloc (.cells #[.string s, .int .i64 x, .int .i64 y, .int .i64 z, .int .i64 u] 35) := ⟨_, rfl⟩
  rw [hg, ← hW0] at P0
  rw [← hW0] at bw0
  obtain ⟨ok, hok⟩ : ∃ ok, okK s.data.toList x y z u = ok := ⟨_, rfl⟩
  have HOK := Lib.hid hok
  clear hok
  go_enter Tryd.func16, Tryd.ntmps16
  go_upto_region 1 with fail
  try rw [hg]
  rw [← hW0]
  clear hg hW0
  go_wp2_with fail
  refine (specTree_any A n c l _ (by omega) HL.out (ha.belowS bw0) hz).mono ?_
  rintro e w1 ⟨b, rfl, hb, hb1⟩
  have bw1 := below_step bw0 hb1
  have P1 := P0.belowS hb1
  have HB := Lib.hid hb
  clear hb P0
  cases b with
  | false =>
    have HN := Lib.hid (show ¬ (TreeP l ∧ okCmd ⟨s, x, y, z, u⟩ = true) from fun h => by have := HB.out.2 h.1; cases this)
    go_wp2_with fail
    refine bodyPost_ret (v := .tuple #[.slice (some ⟨w1.heap.size, 0, none⟩) 0 0, .bool false]) (by simp [results, Tryd.results16, go_sem]) rfl ?_
    exact OutB.lit (.inr (.inr ⟨HN.out, rfl, rfl⟩)) bw1
  | true =>
    obtain ⟨p0, p1, p2, p3, p4⟩ := blk5 P1
    go_wp2_with fail
    refine (specCommandValid_any s x y z u _ hs).mono ?_
    rw [HOK.out]
    rintro e w2 ⟨rfl, hb2⟩
    have bw2 := below_step bw1 hb2
    have P2 := P1.belowS hb2
    clear P1 p0 p1 p2 p3 p4
    cases ok with
    | false =>
      have HN := Lib.hid (show ¬ (TreeP l ∧ okCmd ⟨s, x, y, z, u⟩ = true) from fun h => by have h1 : okK s.data.toList x y z u = true := h.2; rw [HOK.out] at h1; cases h1)
      go_wp2_with fail
      refine bodyPost_ret (v := .tuple #[.slice (some ⟨w2.heap.size, 0, none⟩) 0 0, .bool false]) (by simp [results, Tryd.results16, go_sem]) rfl ?_
      exact OutB.lit (.inr (.inr ⟨HN.out, rfl, rfl⟩)) bw2
    | true =>
      have HT := Lib.hid (show TreeP l ∧ okCmd ⟨s, x, y, z, u⟩ = true from ⟨HB.out.1 (by first | rfl | trivial), HOK.out⟩)
      obtain ⟨⟨gx, gy⟩, hget⟩ : ∃ g, getN l s.data.toList = g := ⟨_, rfl⟩
      have HG := Lib.hid hget
      obtain ⟨r, hr⟩ : ∃ r, (gx == x && gy == y) = r := ⟨_, rfl⟩
      have HR := Lib.hid hr
      clear hget
      cases r with
      | false =>
        have HN := Lib.hid (show ¬ AppG l ⟨s, x, y, z, u⟩ from fun h => by
          have h1 : getN l s.data.toList = (x, y) := h.1
          rw [HG.out] at h1
          injection h1 with h1 h2
          subst h1; subst h2
          have := HR.out
          simp at this)
        obtain ⟨p0, p1, p2, p3, p4⟩ := blk5 P2
        have e0 : w2.drew.cell? ⟨g, 0, none⟩ = some (.string s) := p0
        have e1 : w2.drew.cell? ⟨g, 1, none⟩ = some (.int .i64 x) := p1
        have e2 : w2.drew.cell? ⟨g, 2, none⟩ = some (.int .i64 y) := p2
        have bwd : Below w.heap.size w w2.drew := bw2.drew
        have Pd : Blk w2.drew g 35 #[.string s, .int .i64 x, .int .i64 y, .int .i64 z, .int .i64 u] := P2
        clear p0 p1 p2 p3 p4
        go_upto_region 3 with fail
        obtain ⟨C, hC⟩ : ∃ C : World → Prop, C = fun w' => w'.cell? ⟨g, 0, none⟩ = some (.string s) ∧ w'.cell? ⟨g, 1, none⟩ = some (.int .i64 x) ∧ w'.cell? ⟨g, 2, none⟩ = some (.int .i64 y) ∧ Below (w2.drew).heap.size (w2.drew) w' := ⟨_, rfl⟩
        have HC1 := Lib.hid (show ∀ w', C w' → w'.cell? ⟨g, 0, none⟩ = some (.string s) ∧ w'.cell? ⟨g, 1, none⟩ = some (.int .i64 x) ∧ w'.cell? ⟨g, 2, none⟩ = some (.int .i64 y) ∧ Below (w2.drew).heap.size (w2.drew) w' by rw [hC]; exact fun _ h => h)
        have HC2 := Lib.hid (show ∀ w', w'.cell? ⟨g, 0, none⟩ = some (.string s) ∧ w'.cell? ⟨g, 1, none⟩ = some (.int .i64 x) ∧ w'.cell? ⟨g, 2, none⟩ = some (.int .i64 y) ∧ Below (w2.drew).heap.size (w2.drew) w' → C w' by rw [hC]; exact fun _ h => h)
        clear hC
        refine region_class C (by kernel_rfl) (by kernel_rfl) (HC2.out _ ⟨e0, e1, e2, Below.refl _ _⟩) ?_
        repeat (first
          | go_big_quiet_skip
          | (go_big_quiet_want; go_big_quiet_op; first
              | go_big_quiet_on
              | (apply Exists.intro; refine ⟨?_, ?_⟩; (rintro ⟨w', hw'⟩; with_reducible rfl); go_big_quiet_on)
              | (apply Exists.intro; refine ⟨fun w' hw' => ?_, ?_⟩; (obtain ⟨k0, k1, k2, kb⟩ := HC1.out w' hw'; first
                  | (with_reducible rfl)
                  | (go_at_call 51; refine (specGet_any A n c l s _ (by omega) HL.out (ha.belowS (below_step bwd kb))).mono ?_; rintro e wz ⟨x', y', rfl, hget', hb⟩; obtain ⟨rfl, rfl⟩ := Prod.mk.inj (HG.out.symm.trans hget'); exact ⟨rfl, HC2.out _ ⟨cell_later hb k0, cell_later hb k1, cell_later hb k2, below_step kb hb⟩⟩)
                  | ((first | rw [if2_yes HR.out] | rw [if2_no HR.out]); exact ⟨rfl, rfl⟩)
                  | (go_simp; with_reducible rfl)); go_big_quiet_on)))
        refine wpQuiet_nil ?_
        intro w3 hw3
        obtain ⟨k0, k1, k2, kb⟩ := HC1.out w3 hw3
        clear HC1 HC2 hw3
        have bw3 := below_step bwd kb
        have P3 := Pd.belowS kb
        clear e0 e1 e2 k0 k1 k2 kb bwd Pd P2
        obtain ⟨p0, p1, p2, p3, p4⟩ := blk5 P3
        have hwz := bw3.size
        have ho0 := own_mono (World.ownsRow_lit (base := w3.heap.size) (e := 73) (size := 3) w3 #[] 0 (Nat.le_refl _) (by decide) rfl) hwz
        have ha2 := (ha.belowS bw3).belowS ((Below.refl w3.heap.size w3).alloc (Nat.le_refl _) (.cells #[] 73))
        go_wp2_with (at_builtin; refine wpList_append_at _ rfl _ _ 29 rfl w.heap.size 73 i0 (.agg #[.string ByteArray.empty, .int .i64 0, .int .i64 0]) 3 32 Tryd.underlying29 hi0 hj0 hj1 hj2 rfl (by decide) (.slice (some ⟨w3.heap.size, 0, none⟩) 0 0) 0 [] rfl ho0 encN_len encN_one A n c l rfl HL.out ha2 (by unfold maxLen; omega) (by omega) (by rw [World.size_alloc]; omega) ?_; intro v9 w9 ho9 hg9 hv9)
        have ho4 : w9.ownsRow w.heap.size 73 3 v9 n (l.flatMap encN) := by simpa using ho9
        have bw9 := below_app (below_alloc bw3 _) hg9 (own_ge ho0)
        obtain ⟨A', c', rfl, -, -, -⟩ := own_form ho4
        refine bodyPost_ret (v := .tuple #[.slice A' n c', .bool false]) (by simp [results, Tryd.results16, go_sem]) rfl ?_
        exact OutB.of HL.out (.inr (.inl ⟨HT.out, HN.out, rfl, rfl⟩)) ho4 bw9
      | true =>
        obtain ⟨p0, p1, p2, p3, p4⟩ := blk5 P2
        have e0 : w2.drew.cell? ⟨g, 0, none⟩ = some (.string s) := p0
        have e1 : w2.drew.cell? ⟨g, 1, none⟩ = some (.int .i64 x) := p1
        have e2 : w2.drew.cell? ⟨g, 2, none⟩ = some (.int .i64 y) := p2
        have bwd : Below w.heap.size w w2.drew := bw2.drew
        have Pd : Blk w2.drew g 35 #[.string s, .int .i64 x, .int .i64 y, .int .i64 z, .int .i64 u] := P2
        clear p0 p1 p2 p3 p4
        go_upto_region 3 with fail
        obtain ⟨C, hC⟩ : ∃ C : World → Prop, C = fun w' => w'.cell? ⟨g, 0, none⟩ = some (.string s) ∧ w'.cell? ⟨g, 1, none⟩ = some (.int .i64 x) ∧ w'.cell? ⟨g, 2, none⟩ = some (.int .i64 y) ∧ Below (w2.drew).heap.size (w2.drew) w' := ⟨_, rfl⟩
        have HC1 := Lib.hid (show ∀ w', C w' → w'.cell? ⟨g, 0, none⟩ = some (.string s) ∧ w'.cell? ⟨g, 1, none⟩ = some (.int .i64 x) ∧ w'.cell? ⟨g, 2, none⟩ = some (.int .i64 y) ∧ Below (w2.drew).heap.size (w2.drew) w' by rw [hC]; exact fun _ h => h)
        have HC2 := Lib.hid (show ∀ w', w'.cell? ⟨g, 0, none⟩ = some (.string s) ∧ w'.cell? ⟨g, 1, none⟩ = some (.int .i64 x) ∧ w'.cell? ⟨g, 2, none⟩ = some (.int .i64 y) ∧ Below (w2.drew).heap.size (w2.drew) w' → C w' by rw [hC]; exact fun _ h => h)
        clear hC
        refine region_class C (by kernel_rfl) (by kernel_rfl) (HC2.out _ ⟨e0, e1, e2, Below.refl _ _⟩) ?_
        repeat (first
          | go_big_quiet_skip
          | (go_big_quiet_want; go_big_quiet_op; first
              | go_big_quiet_on
              | (apply Exists.intro; refine ⟨?_, ?_⟩; (rintro ⟨w', hw'⟩; with_reducible rfl); go_big_quiet_on)
              | (apply Exists.intro; refine ⟨fun w' hw' => ?_, ?_⟩; (obtain ⟨k0, k1, k2, kb⟩ := HC1.out w' hw'; first
                  | (with_reducible rfl)
                  | (go_at_call 51; refine (specGet_any A n c l s _ (by omega) HL.out (ha.belowS (below_step bwd kb))).mono ?_; rintro e wz ⟨x', y', rfl, hget', hb⟩; obtain ⟨rfl, rfl⟩ := Prod.mk.inj (HG.out.symm.trans hget'); exact ⟨rfl, HC2.out _ ⟨cell_later hb k0, cell_later hb k1, cell_later hb k2, below_step kb hb⟩⟩)
                  | ((first | rw [if2_yes HR.out] | rw [if2_no HR.out]); exact ⟨rfl, rfl⟩)
                  | (go_simp; with_reducible rfl)); go_big_quiet_on)))
        refine wpQuiet_nil ?_
        intro w3 hw3
        obtain ⟨k0, k1, k2, kb⟩ := HC1.out w3 hw3
        clear HC1 HC2 hw3
        have bw3 := below_step bwd kb
        have P3 := Pd.belowS kb
        clear e0 e1 e2 k0 k1 k2 kb bwd Pd P2
        obtain ⟨p0, p1, p2, p3, p4⟩ := blk5 P3
        go_wp2_with fail
        refine (specTreePut_any A n c l s z u _ (by omega) HL.out (ha.belowS bw3) hz hs).mono ?_
        rintro e w4 ⟨A4, c4, ys, b, rfl, hR, ho4, hb4⟩
        have bw4 := below_step bw3 hb4
        have HG1 := Lib.hid (show getN l s.data.toList = (x, y) by have h := HR.out; rw [Bool.and_eq_true, beq_iff_eq, beq_iff_eq] at h; rw [HG.out, h.1, h.2])
        clear p0 p1 p2 p3 p4 P3 hr
        rcases hR with ⟨rfl, hG, hy⟩ | ⟨rfl, hG, hy⟩
        · have HN := Lib.hid (show AppG l ⟨s, x, y, z, u⟩ from ⟨HG1.out, hG⟩)
          have HY := Lib.hid hy
          clear hy
          go_wp2_with fail
          refine bodyPost_ret (v := .tuple #[.slice A4 ys.length c4, .bool true]) (by simp [results, Tryd.results16, go_sem]) rfl ?_
          exact ⟨A4, c4, ys, true, rfl, .inl ⟨HT.out, HN.out, rfl, HY.out⟩, own_mono ho4 bw3.size, bw4⟩
        · have HN := Lib.hid (show ¬ AppG l ⟨s, x, y, z, u⟩ from fun h => hG h.2)
          have hwz := bw4.size
          have ho0 := own_mono (World.ownsRow_lit (base := w4.heap.size) (e := 73) (size := 3) w4 #[] 0 (Nat.le_refl _) (by decide) rfl) hwz
          have ha2 := (ha.belowS bw4).belowS ((Below.refl w4.heap.size w4).alloc (Nat.le_refl _) (.cells #[] 73))
          go_wp2_with (at_builtin; refine wpList_append_at _ rfl _ _ 29 rfl w.heap.size 73 i0 (.agg #[.string ByteArray.empty, .int .i64 0, .int .i64 0]) 3 32 Tryd.underlying29 hi0 hj0 hj1 hj2 rfl (by decide) (.slice (some ⟨w4.heap.size, 0, none⟩) 0 0) 0 [] rfl ho0 encN_len encN_one A n c l rfl HL.out ha2 (by unfold maxLen; omega) (by omega) (by rw [World.size_alloc]; omega) ?_; intro v9 w9 ho9 hg9 hv9)
          have ho4 : w9.ownsRow w.heap.size 73 3 v9 n (l.flatMap encN) := by simpa using ho9
          have bw9 := below_app (below_alloc bw4 _) hg9 (own_ge ho0)
          obtain ⟨A', c', rfl, -, -, -⟩ := own_form ho4
          refine bodyPost_ret (v := .tuple #[.slice A' n c', .bool false]) (by simp [results, Tryd.results16, go_sem]) rfl ?_
          exact OutB.of HL.out (.inr (.inl ⟨HT.out, HN.out, rfl, rfl⟩)) ho4 bw9

/-- What the method answers: a slice, not always of its own. -/
def AppOf (l : List Nod) (q : Cmd) (w : World) (e : Ending) (w' : World) : Prop :=
  ∃ A' c' ys b, e = .returned (.tuple #[.slice A' ys.length c', .bool b]) ∧ (AppG l q ∧ b = true ∧ ys = appL l q ∨ ¬ AppG l q ∧ b = false ∧ ys = l) ∧ At encN 3 w' A' ys ∧ Below w.heap.size w w'
set_option maxHeartbeats 2000000 in
theorem implApp_any (A : Option Addr) (n c : Nat) (l : List Nod) (s : ByteArray) (x y z u : Int) (w : World) (hn : n ≤ 1048576) (hl : l.length = n) (ha : At encN 3 w A l) (hz : ∀ q ∈ l, q.p.size ≤ 1048576) (hs : s.size ≤ 1048576) (hm : MaxAt w) :
    Calls Tryd.prog 56 #[.agg #[.string s, .int .i64 x, .int .i64 y, .int .i64 z, .int .i64 u], .slice A n c] w (AppOf l ⟨s, x, y, z, u⟩ w) := by
  obtain ⟨i0, hi0, hj0, hj1, hj2⟩ := info_parts infoN
  have HL := Lib.hid hl
  clear hl
  have P0 := Blk.new w 35 #[.string s, .int .i64 x, .int .i64 y, .int .i64 z, .int .i64 u]
  have bw0 := below_alloc (Below.refl w.heap.size w) (.cells #[.string s, .int .i64 x, .int .i64 y, .int .i64 z, .int .i64 u] 35)
  obtain ⟨g, hg⟩ : ∃ g, w.heap.size = g := ⟨_, rfl⟩
  obtain ⟨W0, hW0⟩ : ∃ W0, W0 = w.alloc (.cells #[.string s, .int .i64 x, .int .i64 y, .int .i64 z, .int .i64 u] 35) := ⟨_, rfl⟩
  rw [hg, ← hW0] at P0
  rw [← hW0] at bw0
  have HMX := Lib.hid hm
  clear hm
  go_enter Tryd.func56, Tryd.ntmps56
  go_upto_region 1 with fail
  try rw [hg]
  rw [← hW0]
  clear hg hW0
  obtain ⟨⟨gx, gy⟩, hget⟩ : ∃ g, getN l s.data.toList = g := ⟨_, rfl⟩
  have HG := Lib.hid hget
  obtain ⟨r, hr⟩ : ∃ r, (gx == x && gy == y) = r := ⟨_, rfl⟩
  have HR := Lib.hid hr
  clear hget
  cases r with
  | false =>
    have HN := Lib.hid (show ¬ AppG l ⟨s, x, y, z, u⟩ from fun h => by
      have h1 : getN l s.data.toList = (x, y) := h.1
      rw [HG.out] at h1
      injection h1 with h1 h2
      subst h1; subst h2
      have := HR.out
      simp at this)
    obtain ⟨p0, p1, p2, p3, p4⟩ := blk5 P0
    have e0 : W0.drew.cell? ⟨g, 0, none⟩ = some (.string s) := p0
    have e1 : W0.drew.cell? ⟨g, 1, none⟩ = some (.int .i64 x) := p1
    have e2 : W0.drew.cell? ⟨g, 2, none⟩ = some (.int .i64 y) := p2
    have bwd : Below w.heap.size w W0.drew := bw0.drew
    have Pd : Blk W0.drew g 35 #[.string s, .int .i64 x, .int .i64 y, .int .i64 z, .int .i64 u] := P0
    clear p0 p1 p2 p3 p4
    skip
    obtain ⟨C, hC⟩ : ∃ C : World → Prop, C = fun w' => w'.cell? ⟨g, 0, none⟩ = some (.string s) ∧ w'.cell? ⟨g, 1, none⟩ = some (.int .i64 x) ∧ w'.cell? ⟨g, 2, none⟩ = some (.int .i64 y) ∧ Below (W0.drew).heap.size (W0.drew) w' := ⟨_, rfl⟩
    have HC1 := Lib.hid (show ∀ w', C w' → w'.cell? ⟨g, 0, none⟩ = some (.string s) ∧ w'.cell? ⟨g, 1, none⟩ = some (.int .i64 x) ∧ w'.cell? ⟨g, 2, none⟩ = some (.int .i64 y) ∧ Below (W0.drew).heap.size (W0.drew) w' by rw [hC]; exact fun _ h => h)
    have HC2 := Lib.hid (show ∀ w', w'.cell? ⟨g, 0, none⟩ = some (.string s) ∧ w'.cell? ⟨g, 1, none⟩ = some (.int .i64 x) ∧ w'.cell? ⟨g, 2, none⟩ = some (.int .i64 y) ∧ Below (W0.drew).heap.size (W0.drew) w' → C w' by rw [hC]; exact fun _ h => h)
    clear hC
    refine region_class C (by kernel_rfl) (by kernel_rfl) (HC2.out _ ⟨e0, e1, e2, Below.refl _ _⟩) ?_
    repeat (first
      | go_big_quiet_skip
      | (go_big_quiet_want; go_big_quiet_op; first
          | go_big_quiet_on
          | (apply Exists.intro; refine ⟨?_, ?_⟩; (rintro ⟨w', hw'⟩; with_reducible rfl); go_big_quiet_on)
          | (apply Exists.intro; refine ⟨fun w' hw' => ?_, ?_⟩; (obtain ⟨k0, k1, k2, kb⟩ := HC1.out w' hw'; first
              | (with_reducible rfl)
              | (go_at_call 74; refine (implGet_any A n c l s _ (by omega) HL.out (ha.belowS (below_step bwd kb))).mono ?_; rintro e wz ⟨x', y', rfl, hget', hb⟩; obtain ⟨rfl, rfl⟩ := Prod.mk.inj (HG.out.symm.trans hget'); exact ⟨rfl, HC2.out _ ⟨cell_later hb k0, cell_later hb k1, cell_later hb k2, below_step kb hb⟩⟩)
              | ((first | rw [if2_yes HR.out] | rw [if2_no HR.out]); exact ⟨rfl, rfl⟩)
              | (go_simp; with_reducible rfl)); go_big_quiet_on)))
    refine wpQuiet_nil ?_
    intro w3 hw3
    obtain ⟨k0, k1, k2, kb⟩ := HC1.out w3 hw3
    clear HC1 HC2 hw3
    have bw3 := below_step bwd kb
    have P3 := Pd.belowS kb
    clear e0 e1 e2 k0 k1 k2 kb bwd Pd P0
    obtain ⟨p0, p1, p2, p3, p4⟩ := blk5 P3
    go_wp2_with fail
    refine bodyPost_ret (v := .tuple #[.slice A n c, .bool false]) (by simp [results, Tryd.results56, go_sem]) rfl ?_
    exact ⟨A, c, l, false, by rw [HL.out], .inr ⟨HN.out, rfl, rfl⟩, ha.belowS bw3, bw3⟩
  | true =>
    obtain ⟨p0, p1, p2, p3, p4⟩ := blk5 P0
    have e0 : W0.drew.cell? ⟨g, 0, none⟩ = some (.string s) := p0
    have e1 : W0.drew.cell? ⟨g, 1, none⟩ = some (.int .i64 x) := p1
    have e2 : W0.drew.cell? ⟨g, 2, none⟩ = some (.int .i64 y) := p2
    have bwd : Below w.heap.size w W0.drew := bw0.drew
    have Pd : Blk W0.drew g 35 #[.string s, .int .i64 x, .int .i64 y, .int .i64 z, .int .i64 u] := P0
    clear p0 p1 p2 p3 p4
    skip
    obtain ⟨C, hC⟩ : ∃ C : World → Prop, C = fun w' => w'.cell? ⟨g, 0, none⟩ = some (.string s) ∧ w'.cell? ⟨g, 1, none⟩ = some (.int .i64 x) ∧ w'.cell? ⟨g, 2, none⟩ = some (.int .i64 y) ∧ Below (W0.drew).heap.size (W0.drew) w' := ⟨_, rfl⟩
    have HC1 := Lib.hid (show ∀ w', C w' → w'.cell? ⟨g, 0, none⟩ = some (.string s) ∧ w'.cell? ⟨g, 1, none⟩ = some (.int .i64 x) ∧ w'.cell? ⟨g, 2, none⟩ = some (.int .i64 y) ∧ Below (W0.drew).heap.size (W0.drew) w' by rw [hC]; exact fun _ h => h)
    have HC2 := Lib.hid (show ∀ w', w'.cell? ⟨g, 0, none⟩ = some (.string s) ∧ w'.cell? ⟨g, 1, none⟩ = some (.int .i64 x) ∧ w'.cell? ⟨g, 2, none⟩ = some (.int .i64 y) ∧ Below (W0.drew).heap.size (W0.drew) w' → C w' by rw [hC]; exact fun _ h => h)
    clear hC
    refine region_class C (by kernel_rfl) (by kernel_rfl) (HC2.out _ ⟨e0, e1, e2, Below.refl _ _⟩) ?_
    repeat (first
      | go_big_quiet_skip
      | (go_big_quiet_want; go_big_quiet_op; first
          | go_big_quiet_on
          | (apply Exists.intro; refine ⟨?_, ?_⟩; (rintro ⟨w', hw'⟩; with_reducible rfl); go_big_quiet_on)
          | (apply Exists.intro; refine ⟨fun w' hw' => ?_, ?_⟩; (obtain ⟨k0, k1, k2, kb⟩ := HC1.out w' hw'; first
              | (with_reducible rfl)
              | (go_at_call 74; refine (implGet_any A n c l s _ (by omega) HL.out (ha.belowS (below_step bwd kb))).mono ?_; rintro e wz ⟨x', y', rfl, hget', hb⟩; obtain ⟨rfl, rfl⟩ := Prod.mk.inj (HG.out.symm.trans hget'); exact ⟨rfl, HC2.out _ ⟨cell_later hb k0, cell_later hb k1, cell_later hb k2, below_step kb hb⟩⟩)
              | ((first | rw [if2_yes HR.out] | rw [if2_no HR.out]); exact ⟨rfl, rfl⟩)
              | (go_simp; with_reducible rfl)); go_big_quiet_on)))
    refine wpQuiet_nil ?_
    intro w3 hw3
    obtain ⟨k0, k1, k2, kb⟩ := HC1.out w3 hw3
    clear HC1 HC2 hw3
    have bw3 := below_step bwd kb
    have P3 := Pd.belowS kb
    clear e0 e1 e2 k0 k1 k2 kb bwd Pd P0
    obtain ⟨p0, p1, p2, p3, p4⟩ := blk5 P3
    go_wp2_with fail
    refine (implTreePut_any A n c l s z u _ (by omega) HL.out (ha.belowS bw3) hz hs (HMX.out.belowS bw3)).mono ?_
    rintro e w4 ⟨A4, c4, ys, b, rfl, hR, ho4, hb4⟩
    have bw4 := below_step bw3 hb4
    have HG1 := Lib.hid (show getN l s.data.toList = (x, y) by have h := HR.out; rw [Bool.and_eq_true, beq_iff_eq, beq_iff_eq] at h; rw [HG.out, h.1, h.2])
    clear p0 p1 p2 p3 p4 P3 hr
    rcases hR with ⟨rfl, hG, hy⟩ | ⟨rfl, hG, hy⟩
    · have HN := Lib.hid (show AppG l ⟨s, x, y, z, u⟩ from ⟨HG1.out, hG⟩)
      have HY := Lib.hid hy
      clear hy
      go_wp2_with fail
      refine bodyPost_ret (v := .tuple #[.slice A4 ys.length c4, .bool true]) (by simp [results, Tryd.results56, go_sem]) rfl ?_
      exact ⟨A4, c4, ys, true, rfl, .inl ⟨HN.out, rfl, HY.out⟩, own_at encN_len ho4 rfl, bw4⟩
    · have HN := Lib.hid (show ¬ AppG l ⟨s, x, y, z, u⟩ from fun h => hG h.2)
      go_wp2_with fail
      refine bodyPost_ret (v := .tuple #[.slice A n c, .bool false]) (by simp [results, Tryd.results56, go_sem]) rfl ?_
      exact ⟨A, c, l, false, by rw [HL.out], .inr ⟨HN.out, rfl, rfl⟩, ha.belowS bw4, bw4⟩

set_option maxHeartbeats 2000000 in
theorem implCommandApply_any (A : Option Addr) (n c : Nat) (l : List Nod) (s : ByteArray) (x y z u : Int) (w : World) (hn : n ≤ 1048576) (hl : l.length = n) (ha : At encN 3 w A l) (hz : ∀ q ∈ l, q.p.size ≤ 1048576) (hs : s.size ≤ 1048576) (hm : MaxAt w) :
    Calls Tryd.prog 19 #[.slice A n c, .agg #[.string s, .int .i64 x, .int .i64 y, .int .i64 z, .int .i64 u]] w (OutB encN 3 73 (CmdR l ⟨s, x, y, z, u⟩) w) := by
  obtain ⟨i0, hi0, hj0, hj1, hj2⟩ := info_parts infoN
  have HL := Lib.hid hl
  clear hl
  have P0 := Blk.new w 35 #[.string s, .int .i64 x, .int .i64 y, .int .i64 z, .int .i64 u]
  have bw0 := below_alloc (Below.refl w.heap.size w) (.cells #[.string s, .int .i64 x, .int .i64 y, .int .i64 z, .int .i64 u] 35)
  obtain ⟨g, hg⟩ : ∃ g, w.heap.size = g := ⟨_, rfl⟩
  obtain ⟨W0, hW0⟩ : ∃ W0, W0 = w.alloc (.cells #[.string s, .int .i64 x, .int .i64 y, .int .i64 z, .int .i64 u] 35) := ⟨_, rfl⟩
  rw [hg, ← hW0] at P0
  rw [← hW0] at bw0
  have HMX := Lib.hid hm
  clear hm
  obtain ⟨ok, hok⟩ : ∃ ok, okK s.data.toList x y z u = ok := ⟨_, rfl⟩
  have HOK := Lib.hid hok
  clear hok
  go_enter Tryd.func19, Tryd.ntmps19
  go_upto_region 1 with fail
  try rw [hg]
  rw [← hW0]
  clear hg hW0
  go_wp2_with fail
  refine (implTree_any A n c l _ (by omega) HL.out (ha.belowS bw0) hz (HMX.out.belowS bw0)).mono ?_
  rintro e w1 ⟨b, rfl, hb, hb1⟩
  have bw1 := below_step bw0 hb1
  have P1 := P0.belowS hb1
  have HB := Lib.hid hb
  clear hb P0
  cases b with
  | false =>
    have HN := Lib.hid (show ¬ (TreeP l ∧ okCmd ⟨s, x, y, z, u⟩ = true) from fun h => by have := HB.out.2 h.1; cases this)
    go_wp2_with fail
    refine bodyPost_ret (v := .tuple #[.slice none 0 0, .bool false]) (by simp [results, Tryd.results19, go_sem]) rfl ?_
    exact OutB.nil (.inr (.inr ⟨HN.out, rfl, rfl⟩)) bw1
  | true =>
    obtain ⟨p0, p1, p2, p3, p4⟩ := blk5 P1
    go_wp2_with fail
    refine (implCommandValid_any s x y z u _ hs (HMX.out.belowS bw1)).mono ?_
    rw [HOK.out]
    rintro e w2 ⟨rfl, hb2⟩
    have bw2 := below_step bw1 hb2
    have P2 := P1.belowS hb2
    clear P1 p0 p1 p2 p3 p4
    cases ok with
    | false =>
      have HN := Lib.hid (show ¬ (TreeP l ∧ okCmd ⟨s, x, y, z, u⟩ = true) from fun h => by have h1 : okK s.data.toList x y z u = true := h.2; rw [HOK.out] at h1; cases h1)
      go_wp2_with fail
      refine bodyPost_ret (v := .tuple #[.slice none 0 0, .bool false]) (by simp [results, Tryd.results19, go_sem]) rfl ?_
      exact OutB.nil (.inr (.inr ⟨HN.out, rfl, rfl⟩)) bw2
    | true =>
      have HT := Lib.hid (show TreeP l ∧ okCmd ⟨s, x, y, z, u⟩ = true from ⟨HB.out.1 (by first | rfl | trivial), HOK.out⟩)
      obtain ⟨p0, p1, p2, p3, p4⟩ := blk5 P2
      go_wp2_with fail
      refine (implApp_any A n c l s x y z u _ (by omega) HL.out (ha.belowS bw2) hz hs (HMX.out.belowS bw2)).mono ?_
      rintro e w3 ⟨A3, c3, ys, b, rfl, hR, hat, hb3⟩
      have bw3 := below_step bw2 hb3
      have hyn : ys.length ≤ n + 1 := by
        rw [← HL.out]
        rcases hR with ⟨_, _, rfl⟩ | ⟨_, _, rfl⟩
        · exact app_len _ _
        · omega
      have HR := Lib.hid (show CmdR l ⟨s, x, y, z, u⟩ ys b from by
        rcases hR with ⟨h1, rfl, rfl⟩ | ⟨h1, rfl, rfl⟩
        · exact .inl ⟨HT.out, h1, rfl, rfl⟩
        · exact .inr (.inl ⟨HT.out, h1, rfl, rfl⟩))
      clear P2 p0 p1 p2 p3 p4 hR
      go_wp2_with fail
      refine (cloneTree_any A3 ys.length c3 ys _ w.heap.size (by omega) rfl hat bw3.size).mono ?_
      rintro e w4 ⟨A4, c4, rfl, ho4, hb4⟩
      have bw4 := below_step bw3 hb4
      go_wp2_with fail
      refine bodyPost_ret (v := .tuple #[.slice A4 ys.length c4, .bool b]) (by simp [results, Tryd.results19, go_sem]) rfl ?_
      exact ⟨A4, c4, ys, b, rfl, HR.out, own_mono ho4 bw3.size, bw4⟩
end Go.Proofs.YtlhhplhciiobfaaDoor
