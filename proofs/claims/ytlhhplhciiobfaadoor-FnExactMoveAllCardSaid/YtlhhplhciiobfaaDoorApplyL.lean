/- A log applied to a tree, by both texts. -/
import Derived.Test.YtlhhplhciiobfaaDoorApply
namespace Go.Proofs.YtlhhplhciiobfaaDoor
open Go.RowKit
set_option linter.unusedVariables false
set_option linter.unusedSimpArgs false
set_option maxRecDepth 20000

theorem okLog_cmd {ks : List Cmd} (h : okLog ks = true) {q : Cmd} (hq : q ∈ ks) : okCmd q = true := by
  unfold okLog at h
  rw [Bool.and_eq_true] at h
  exact List.all_eq_true.1 h.1 q hq
theorem app_size {l : List Nod} {q : Cmd} (h : ∀ n ∈ l, n.p.size ≤ 1048576) (hq : q.p.size ≤ 1048576) : ∀ n ∈ appL l q, n.p.size ≤ 1048576 := fun n hn => by
  unfold appL at hn
  rcases put_mem hn with rfl | hn
  · exact hq
  · exact h n hn
theorem StopL.at {l : List Nod} {ks : List Cmd} {k m : Nat} {q : Cmd} {ys : List Nod} (hm : ks.length = m) (hk : k ≤ m) (hg : GoesL l ks k) (hy : ys = atL l ks k) (hq : ks[k]? = some q) (hn : ¬ AppG ys q) : StopL l ks k :=
  ⟨by omega, hg, fun p hp => by rw [hq] at hp; injection hp with hp; subst hp; rw [← hy]; exact hn⟩

set_option maxHeartbeats 2000000 in
theorem specLogApply_any (A : Option Addr) (n c : Nat) (l : List Nod) (B : Option Addr) (m d : Nat) (ks : List Cmd) (w : World) (hn : n ≤ 1048576) (hm' : m ≤ 1048576) (hl : l.length = n) (hk : ks.length = m) (ha : At encN 3 w A l) (hb : At encK 5 w B ks) (hz : ∀ q ∈ l, q.p.size ≤ 1048576) (hzk : ∀ q ∈ ks, q.p.size ≤ 1048576) :
    Calls Tryd.prog 28 #[.slice A n c, .slice B m d] w (OutZ encN 3 73 (LogR l ks) w) := by
  obtain ⟨i0, hi0, hj0, hj1, hj2⟩ := info_parts infoN
  obtain ⟨k0, hki, hkz0, hkz1, hkz2⟩ := info_parts infoK
  have HL := Lib.hid hl
  have HK := Lib.hid hk
  obtain ⟨ok, hok⟩ : ∃ ok, okLog ks = ok := ⟨_, rfl⟩
  have HOK := Lib.hid hok
  clear hl hk hok
  go_enter Tryd.func28, Tryd.ntmps28
  go_wp2_with fail
  refine (specTree_any A n c l _ (by omega) HL.out ha hz).mono ?_
  rintro e w1 ⟨b, rfl, hb', hb1⟩
  have HB := Lib.hid hb'
  clear hb'
  cases b with
  | false =>
    have HN := Lib.hid (show ¬ (TreeP l ∧ okLog ks = true) from fun h => by have := HB.out.2 h.1; cases this)
    go_wp2_with fail
    refine bodyPost_ret (v := .tuple #[.slice (some ⟨w1.heap.size, 0, none⟩) 0 0, .int .i64 (-1)]) (by simp [results, Tryd.results28, go_sem]) rfl ?_
    exact OutZ.lit (.inr ⟨HN.out, rfl, rfl⟩) hb1
  | true =>
    go_wp2_with fail
    refine (specLogValid_any B m d ks _ (by omega) HK.out (hb.belowS hb1) hzk).mono ?_
    rw [HOK.out]
    rintro e w2 ⟨rfl, hb2⟩
    have bw2 := below_step hb1 hb2
    cases ok with
    | false =>
      have HN := Lib.hid (show ¬ (TreeP l ∧ okLog ks = true) from fun h => by have h1 := h.2; rw [HOK.out] at h1; cases h1)
      go_wp2_with fail
      refine bodyPost_ret (v := .tuple #[.slice (some ⟨w2.heap.size, 0, none⟩) 0 0, .int .i64 (-1)]) (by simp [results, Tryd.results28, go_sem]) rfl ?_
      exact OutZ.lit (.inr ⟨HN.out, rfl, rfl⟩) bw2
    | true =>
      have HT := Lib.hid (show TreeP l ∧ okLog ks = true from ⟨HB.out.1 (by first | rfl | trivial), HOK.out⟩)
      have hwz := bw2.size
      have ho0 := own_mono (World.ownsRow_lit (base := w2.heap.size) (e := 73) (size := 3) w2 #[] 0 (Nat.le_refl _) (by decide) rfl) hwz
      have ha2 := (ha.belowS bw2).belowS ((Below.refl w2.heap.size w2).alloc (Nat.le_refl _) (.cells #[] 73))
      go_wp2_with (at_builtin; refine wpList_append_at _ rfl _ _ 29 rfl w.heap.size 73 i0 (.agg #[.string ByteArray.empty, .int .i64 0, .int .i64 0]) 3 32 Tryd.underlying29 hi0 hj0 hj1 hj2 rfl (by decide) (.slice (some ⟨w2.heap.size, 0, none⟩) 0 0) 0 [] rfl ho0 encN_len encN_one A n c l rfl HL.out ha2 (by unfold maxLen; omega) (by omega) (by rw [World.size_alloc]; omega) ?_; intro v9 w9 ho9 hg9 hv9)
      have ho4 : w9.ownsRow w.heap.size 73 3 v9 n (l.flatMap encN) := by simpa using ho9
      have bw9 := below_app (below_alloc bw2 _) hg9 (own_ge ho0)
      clear ho9 hg9 hv9 ho0 ha2
      go_loopw [6, 7] (fun v i wr => ∃ (k : Nat) (ys : List Nod), i = .int .i64 k ∧ k ≤ m ∧ Hid (GoesL l ks k ∧ ys = atL l ks k ∧ ∀ q ∈ ys, q.p.size ≤ 1048576) ∧ wr.ownsRow w.heap.size 73 3 v ys.length (ys.flatMap encN) ∧ Below w.heap.size w wr) (fun _ i _ => m - (intOf i).toNat)
      case atStart => exact ⟨0, l, rfl, Nat.zero_le _, Lib.hid ⟨GoesL.zero _ _, rfl, hz⟩, by rw [HL.out]; exact ho4, bw9⟩
      case round =>
        clear ho4 bw9
        obtain ⟨k, ys, rfl, hk, HY, ho, hbw⟩ := hrel
        have HTY := Lib.hid (show TreeP ys by rw [HY.out.2.1]; exact GoesL.tree HT.out.1 (by rw [HK.out]; exact hk) HY.out.1)
        have hyl : ys.length ≤ 10 := HTY.out.2.2
        obtain ⟨Ay, cy, rfl, -, -, -⟩ := own_form ho
        by_cases hlt : k < m
        · have hlk : k < ks.length := by rw [HK.out]; exact hlt
          have hidx := fun W => run_index_any (c := d) Tryd.underlying43 hki hkz1 (hb.addr (by omega)) hlt W
          obtain ⟨q, hq⟩ : ∃ q, ks[k] = q := ⟨_, rfl⟩
          have HQ := Lib.hid (show ks[k]? = some q by rw [List.getElem?_eq_getElem hlk, hq])
          have hqz := hzk q (hq ▸ List.getElem_mem _)
          have HOKQ := Lib.hid (okLog_cmd HOK.out (show q ∈ ks from hq ▸ List.getElem_mem _))
          obtain ⟨c0, c1, c2, c3, c4⟩ := at5 (hb.belowS hbw) hlk hq
          have hay := own_at encN_len ho rfl
          clear hq
          go_wp2_with fail
          refine (specApply_any Ay ys.length cy ys q.p q.x q.y q.z q.u _ (by omega) rfl hay HY.out.2.2 hqz).mono ?_
          rintro e w3 ⟨A3, c3', zs, b, rfl, hR, ho3, hb3⟩
          have bw3 := below_step hbw hb3
          have HR := Lib.hid (show b = true ∧ AppG ys q ∧ zs = appL ys q ∨ b = false ∧ ¬ AppG ys q from by
            rcases hR with ⟨_, h, rfl, rfl⟩ | ⟨_, h, rfl, rfl⟩ | ⟨h, _, _⟩
            · exact .inl ⟨rfl, h, rfl⟩
            · exact .inr ⟨rfl, h⟩
            · exact absurd ⟨HTY.out, HOKQ.out⟩ h)
          clear hR c0 c1 c2 c3 c4 hay
          cases b with
          | false =>
            have HS := Lib.hid (StopL.at HK.out hk HY.out.1 HY.out.2.1 HQ.out (by rcases HR.out with ⟨h, _⟩ | ⟨_, h⟩; (cases h); exact h))
            have ho4 := own_belowS ho hb3
            clear ho3 ho
            go_wp2_with fail
            refine bodyPost_ret (v := .tuple #[.slice Ay ys.length cy, .int .i64 k]) (by simp [results, Tryd.results28, go_sem]) rfl ?_
            exact ⟨Ay, cy, ys, k, rfl, .inl ⟨HT.out, k, HS.out, rfl, HY.out.2.1⟩, ho4, bw3⟩
          | true =>
            have HN := Lib.hid (show GoesL l ks (k + 1) ∧ zs = atL l ks (k + 1) ∧ ∀ q ∈ zs, q.p.size ≤ 1048576 from by
              rcases HR.out with ⟨_, h, h2⟩ | ⟨h, _⟩
              · rw [HY.out.2.1] at h
                refine ⟨HY.out.1.next HQ.out h, by rw [h2, HY.out.2.1, atL_next HQ.out], ?_⟩
                rw [h2]
                exact app_size HY.out.2.2 hqz
              · cases h)
            have ho4 := own_mono ho3 hbw.size
            clear ho3 ho
            go_wp2_with fail
            go_roundw
            case rel => exact ⟨k + 1, zs, by go_num, by omega, HN, ho4, bw3⟩
            case measure => simp [intOf]; omega
        · obtain rfl : m = k := by omega
          have HS := Lib.hid (StopL.end_ HK.out HY.out.1)
          go_wp2_with fail
          refine bodyPost_ret (v := .tuple #[.slice Ay ys.length cy, .int .i64 m]) (by simp [results, Tryd.results28, go_sem]) rfl ?_
          exact ⟨Ay, cy, ys, m, rfl, .inl ⟨HT.out, m, HS.out, rfl, HY.out.2.1⟩, ho, hbw⟩

/-- What applyAll answers: a slice, not always of its own. -/
def AllOf (l : List Nod) (ks : List Cmd) (w : World) (e : Ending) (w' : World) : Prop :=
  ∃ A' c' ys k, e = .returned (.tuple #[.slice A' ys.length c', .int .i64 (k : Nat)]) ∧ (StopL l ks k ∧ ys = atL l ks k ∧ ys.length ≤ 10) ∧ At encN 3 w' A' ys ∧ Below w.heap.size w w'
set_option maxHeartbeats 2000000 in
theorem implAll_any (A : Option Addr) (n c : Nat) (l : List Nod) (B : Option Addr) (m d : Nat) (ks : List Cmd) (w : World) (hn : n ≤ 1048576) (hm' : m ≤ 1048576) (hl : l.length = n) (hk : ks.length = m) (ha : At encN 3 w A l) (hb : At encK 5 w B ks) (hz : ∀ q ∈ l, q.p.size ≤ 1048576) (hzk : ∀ q ∈ ks, q.p.size ≤ 1048576) (hm : MaxAt w) (hT : TreeP l) :
    Calls Tryd.prog 63 #[.slice A n c, .slice B m d] w (AllOf l ks w) := by
  obtain ⟨k0, hki, hkz0, hkz1, hkz2⟩ := info_parts infoK
  have HL := Lib.hid hl
  have HK := Lib.hid hk
  have HMX := Lib.hid hm
  have HT := Lib.hid hT
  clear hl hk hm hT
  go_enter Tryd.func63, Tryd.ntmps63
  go_wp2_with fail
  go_loopw [0, 12] (fun v i wr => ∃ (k : Nat) (A' : Option Addr) (c' : Nat) (ys : List Nod), i = .int .i64 k ∧ v = .slice A' ys.length c' ∧ k ≤ m ∧ Hid (GoesL l ks k ∧ ys = atL l ks k ∧ ∀ q ∈ ys, q.p.size ≤ 1048576) ∧ At encN 3 wr A' ys ∧ Below w.heap.size w wr) (fun _ i _ => m - (intOf i).toNat)
  case atStart => exact ⟨0, A, c, l, rfl, by rw [HL.out], Nat.zero_le _, Lib.hid ⟨GoesL.zero _ _, rfl, hz⟩, ha, Below.refl _ _⟩
  case round =>
    obtain ⟨k, Ay, cy, ys, rfl, rfl, hk, HY, hay, hbw⟩ := hrel
    have HTY := Lib.hid (show TreeP ys by rw [HY.out.2.1]; exact GoesL.tree HT.out (by rw [HK.out]; exact hk) HY.out.1)
    have hyl : ys.length ≤ 10 := HTY.out.2.2
    by_cases hlt : k < m
    · have hlk : k < ks.length := by rw [HK.out]; exact hlt
      have hidx := fun W => run_index_any (c := d) Tryd.underlying43 hki hkz1 (hb.addr (by omega)) hlt W
      obtain ⟨q, hq⟩ : ∃ q, ks[k] = q := ⟨_, rfl⟩
      have HQ := Lib.hid (show ks[k]? = some q by rw [List.getElem?_eq_getElem hlk, hq])
      have hqz := hzk q (hq ▸ List.getElem_mem _)
      obtain ⟨c0, c1, c2, c3, c4⟩ := at5 (hb.belowS hbw) hlk hq
      clear hq
      have P0 := Blk.new wr 35 #[.string q.p, .int .i64 q.x, .int .i64 q.y, .int .i64 q.z, .int .i64 q.u]
      have hb0 := below_alloc (Below.refl wr.heap.size wr) (.cells #[.string q.p, .int .i64 q.x, .int .i64 q.y, .int .i64 q.z, .int .i64 q.u] 35)
      have bw0 := below_step hbw hb0
      have ha0 := hay.belowS hb0
      obtain ⟨g, hg⟩ : ∃ g, wr.heap.size = g := ⟨_, rfl⟩
      obtain ⟨W0, hW0⟩ : ∃ W0, W0 = wr.alloc (.cells #[.string q.p, .int .i64 q.x, .int .i64 q.y, .int .i64 q.z, .int .i64 q.u] 35) := ⟨_, rfl⟩
      rw [hg, ← hW0] at P0
      rw [← hW0] at bw0 ha0
      clear hb0 hay
      go_upto_region 4 with fail
      try rw [hg]
      rw [← hW0]
      clear hg hW0 c0 c1 c2 c3 c4
      obtain ⟨p0, p1, p2, p3, p4⟩ := blk5 P0
      go_wp2_with fail
      refine (implApp_any Ay ys.length cy ys q.p q.x q.y q.z q.u _ (by omega) rfl ha0 HY.out.2.2 hqz (HMX.out.belowS bw0)).mono ?_
      rintro e w3 ⟨A3, c3', zs, b, rfl, hR, ha3, hb3⟩
      have bw3 := below_step bw0 hb3
      have HR := Lib.hid hR
      have ha4 := ha0.belowS hb3
      clear hR p0 p1 p2 p3 p4 P0 ha0
      cases b with
      | false =>
        have HS := Lib.hid (StopL.at HK.out hk HY.out.1 HY.out.2.1 HQ.out (by rcases HR.out with ⟨_, h, _⟩ | ⟨h, _⟩; (cases h); exact h))
        clear ha3
        go_wp2_with fail
        refine bodyPost_ret (v := .tuple #[.slice Ay ys.length cy, .int .i64 k]) (by simp [results, Tryd.results63, go_sem]) rfl ?_
        exact ⟨Ay, cy, ys, k, rfl, ⟨HS.out, HY.out.2.1, hyl⟩, ha4, bw3⟩
      | true =>
        have HN := Lib.hid (show GoesL l ks (k + 1) ∧ zs = atL l ks (k + 1) ∧ ∀ q ∈ zs, q.p.size ≤ 1048576 from by
          rcases HR.out with ⟨h, _, h2⟩ | ⟨_, h, _⟩
          · rw [HY.out.2.1] at h
            refine ⟨HY.out.1.next HQ.out h, by rw [h2, HY.out.2.1, atL_next HQ.out], ?_⟩
            rw [h2]
            exact app_size HY.out.2.2 hqz
          · cases h)
        clear ha4
        go_wp2_with fail
        go_roundw
        case rel => exact ⟨k + 1, A3, c3', zs, by go_num, rfl, by omega, HN, ha3, bw3⟩
        case measure => simp [intOf]; omega
    · obtain rfl : m = k := by omega
      have HS := Lib.hid (StopL.end_ HK.out HY.out.1)
      go_wp2_with fail
      refine bodyPost_ret (v := .tuple #[.slice Ay ys.length cy, .int .i64 m]) (by simp [results, Tryd.results63, go_sem]) rfl ?_
      exact ⟨Ay, cy, ys, m, rfl, ⟨HS.out, HY.out.2.1, hyl⟩, hay, hbw⟩

set_option maxHeartbeats 2000000 in
theorem implLogApply_any (A : Option Addr) (n c : Nat) (l : List Nod) (B : Option Addr) (m d : Nat) (ks : List Cmd) (w : World) (hn : n ≤ 1048576) (hm' : m ≤ 1048576) (hl : l.length = n) (hk : ks.length = m) (ha : At encN 3 w A l) (hb : At encK 5 w B ks) (hz : ∀ q ∈ l, q.p.size ≤ 1048576) (hzk : ∀ q ∈ ks, q.p.size ≤ 1048576) (hm : MaxAt w) :
    Calls Tryd.prog 29 #[.slice A n c, .slice B m d] w (OutZ encN 3 73 (LogR l ks) w) := by
  have HL := Lib.hid hl
  have HK := Lib.hid hk
  have HMX := Lib.hid hm
  obtain ⟨ok, hok⟩ : ∃ ok, okLog ks = ok := ⟨_, rfl⟩
  have HOK := Lib.hid hok
  clear hl hk hok hm
  go_enter Tryd.func29, Tryd.ntmps29
  go_wp2_with fail
  refine (implTree_any A n c l _ (by omega) HL.out ha hz HMX.out).mono ?_
  rintro e w1 ⟨b, rfl, hb', hb1⟩
  have HB := Lib.hid hb'
  clear hb'
  cases b with
  | false =>
    have HN := Lib.hid (show ¬ (TreeP l ∧ okLog ks = true) from fun h => by have := HB.out.2 h.1; cases this)
    go_wp2_with fail
    refine bodyPost_ret (v := .tuple #[.slice none 0 0, .int .i64 (-1)]) (by simp [results, Tryd.results29, go_sem]) rfl ?_
    exact OutZ.nil (.inr ⟨HN.out, rfl, rfl⟩) hb1
  | true =>
    go_wp2_with fail
    refine (implLogValid_any B m d ks _ (by omega) HK.out (hb.belowS hb1) hzk (HMX.out.belowS hb1)).mono ?_
    rw [HOK.out]
    rintro e w2 ⟨rfl, hb2⟩
    have bw2 := below_step hb1 hb2
    cases ok with
    | false =>
      have HN := Lib.hid (show ¬ (TreeP l ∧ okLog ks = true) from fun h => by have h1 := h.2; rw [HOK.out] at h1; cases h1)
      go_wp2_with fail
      refine bodyPost_ret (v := .tuple #[.slice none 0 0, .int .i64 (-1)]) (by simp [results, Tryd.results29, go_sem]) rfl ?_
      exact OutZ.nil (.inr ⟨HN.out, rfl, rfl⟩) bw2
    | true =>
      have HT := Lib.hid (show TreeP l ∧ okLog ks = true from ⟨HB.out.1 (by first | rfl | trivial), HOK.out⟩)
      go_wp2_with fail
      refine (implAll_any A n c l B m d ks _ hn hm' HL.out HK.out (ha.belowS bw2) (hb.belowS bw2) hz hzk (HMX.out.belowS bw2) HT.out.1).mono ?_
      rintro e w3 ⟨A3, c3, ys, k, rfl, ⟨hS, hY, hy10⟩, hat, hb3⟩
      have bw3 := below_step bw2 hb3
      have HS := Lib.hid hS
      have HY := Lib.hid hY
      clear hS hY
      go_wp2_with fail
      refine (cloneTree_any A3 ys.length c3 ys _ w.heap.size (by omega) rfl hat bw3.size).mono ?_
      rintro e w4 ⟨A4, c4, rfl, ho4, hb4⟩
      have bw4 := below_step bw3 hb4
      go_wp2_with fail
      refine bodyPost_ret (v := .tuple #[.slice A4 ys.length c4, .int .i64 k]) (by simp [results, Tryd.results29, go_sem]) rfl ?_
      exact ⟨A4, c4, ys, k, rfl, .inl ⟨HT.out, k, HS.out, rfl, HY.out⟩, own_mono ho4 bw3.size, bw4⟩

set_option maxHeartbeats 2000000 in
theorem specFits_any (A : Option Addr) (n c : Nat) (l : List Nod) (B : Option Addr) (m d : Nat) (ks : List Cmd) (w : World) (hn : n ≤ 1048576) (hm' : m ≤ 1048576) (hl : l.length = n) (hk : ks.length = m) (ha : At encN 3 w A l) (hb : At encK 5 w B ks) (hz : ∀ q ∈ l, q.p.size ≤ 1048576) (hzk : ∀ q ∈ ks, q.p.size ≤ 1048576) :
    Calls Tryd.prog 24 #[.slice A n c, .slice B m d] w (Tells (FitL l ks) w) := by
  go_enter Tryd.func24, Tryd.ntmps24
  go_wp2_with fail
  refine (specLogApply_any A n c l B m d ks _ hn hm' hl hk ha hb hz hzk).mono ?_
  rintro e w1 ⟨A1, c1, ys, z, rfl, hR, -, hb1⟩
  have HF := Lib.hid (hR.fits hk)
  clear hR
  go_wp2_with fail
  go_ret
  exact ⟨_, ret_bool (by first | rfl | simp), by simpa using HF.out, hb1⟩

set_option maxHeartbeats 2000000 in
theorem implFits_any (A : Option Addr) (n c : Nat) (l : List Nod) (B : Option Addr) (m d : Nat) (ks : List Cmd) (w : World) (hn : n ≤ 1048576) (hm' : m ≤ 1048576) (hl : l.length = n) (hk : ks.length = m) (ha : At encN 3 w A l) (hb : At encK 5 w B ks) (hz : ∀ q ∈ l, q.p.size ≤ 1048576) (hzk : ∀ q ∈ ks, q.p.size ≤ 1048576) (hm : MaxAt w) :
    Calls Tryd.prog 26 #[.slice A n c, .slice B m d] w (Tells (FitL l ks) w) := by
  go_enter Tryd.func26, Tryd.ntmps26
  go_wp2_with fail
  refine (implLogApply_any A n c l B m d ks _ hn hm' hl hk ha hb hz hzk hm).mono ?_
  rintro e w1 ⟨A1, c1, ys, z, rfl, hR, -, hb1⟩
  have HF := Lib.hid (hR.fits hk)
  clear hR
  go_wp2_with fail
  go_ret
  exact ⟨_, ret_bool (by first | rfl | simp), by simpa using HF.out, hb1⟩
end Go.Proofs.YtlhhplhciiobfaaDoor
