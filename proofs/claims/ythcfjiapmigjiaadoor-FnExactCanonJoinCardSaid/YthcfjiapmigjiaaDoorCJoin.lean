/- Canonical logs of two logs, by both texts. -/
import Derived.Test.YthcfjiapmigjiaaDoorCanI
import Derived.Test.YthcfjiapmigjiaaDoorCanF
namespace Go.Proofs.YthcfjiapmigjiaaDoor
open Go.RowKit Go.Shelf
set_option linter.unusedVariables false
set_option linter.unusedSimpArgs false
set_option maxRecDepth 20000

set_option maxHeartbeats 2000000 in
theorem specCanonJoin_any (A : Option Addr) (n c : Nat) (l : List Cmd) (B : Option Addr) (m d : Nat) (ks : List Cmd) (w : World) (hn : n ≤ 1048576) (hm' : m ≤ 1048576) (hl : l.length = n) (hk : ks.length = m) (ha : At encK 5 w A l) (hb : At encK 5 w B ks) (hz : ∀ q ∈ l, q.p.size ≤ 1048576) (hzk : ∀ q ∈ ks, q.p.size ≤ 1048576) :
    Calls Tryd.prog 19 #[.slice A n c, .slice B m d] w (OutB encK 5 52 (CanR (l ++ ks)) w) := by
  obtain ⟨i0, hi0, hj0, hj1, hj2⟩ := info_parts infoK
  have HL := Lib.hid hl
  have HK := Lib.hid hk
  clear hl hk
  have ho0 := World.ownsRow_lit (base := w.heap.size) (e := 52) (size := 5) w #[] 0 (Nat.le_refl _) (by decide) rfl
  have bw0 := below_alloc (Below.refl w.heap.size w) (.cells #[] 52)
  have hs0 : w.heap.size ≤ (w.alloc (.cells #[] 52)).heap.size := bw0.size
  go_enter Tryd.func19, Tryd.ntmps19
  go_wp2_with (first | (at_builtin; refine wpList_append_at _ rfl _ _ 24 rfl w.heap.size 52 i0 (.agg #[.string ByteArray.empty, .int .i64 0, .int .i64 0, .int .i64 0, .int .i64 0]) 5 48 Tryd.underlying24 hi0 hj0 hj1 hj2 rfl (by decide) _ 0 _ rfl ho0 encK_len encK_one A n _ l rfl HL.out (ha.belowS bw0) (by unfold maxLen; omega) (by omega) (by omega) ?_; intro v1 w1 ho1 hg1 hv1; have bw1 := below_app bw0 hg1 (own_ge ho0); have hs1 := bw1.size) | (at_builtin; refine wpList_append_at _ rfl _ _ 24 rfl w.heap.size 52 i0 (.agg #[.string ByteArray.empty, .int .i64 0, .int .i64 0, .int .i64 0, .int .i64 0]) 5 48 Tryd.underlying24 hi0 hj0 hj1 hj2 rfl (by decide) _ (0 + n) _ rfl ho1 encK_len encK_one B m _ ks rfl HK.out (hb.belowS bw1) (by unfold maxLen; omega) (by omega) (by omega) ?_; intro v2 w2 ho2 hg2 hv2; have bw2 := below_app bw1 hg2 (own_ge ho1)))
  have ho3 : w2.ownsRow w.heap.size 52 5 v2 (n + m) ((l ++ ks).flatMap encK) := by rw [List.flatMap_append]; simpa using ho2
  have HLK := Lib.hid (show (l ++ ks).length = n + m by rw [List.length_append, HL.out, HK.out])
  obtain ⟨A3, c3, hv3, -, -, -⟩ := own_form ho3
  rw [hv3] at ho3 ⊢
  refine (specLogCanon_any A3 (n + m) c3 (l ++ ks) _ (by omega) HLK.out (own_at encK_len ho3 HLK.out) (fun q hq => by rcases List.mem_append.1 hq with h | h; exact hz q h; exact hzk q h)).mono ?_
  rintro e w4 ⟨A4, c4, ys, b, rfl, hR, ho4, hb4⟩
  go_wp2_with fail
  refine bodyPost_ret (v := .tuple #[.slice A4 ys.length c4, .bool b]) (by simp [results, Tryd.results19, go_sem]) rfl ?_
  exact ⟨A4, c4, ys, b, rfl, hR, own_mono ho4 bw2.size, below_step bw2 hb4⟩
theorem infoSl : (Tryd.prog.info? 24).map (fun i => (i.zero, i.size, i.bytes)) = some (some (.slice none 0 0), 1, 24) := by kernel_rfl
theorem blk_two {w : World} {g : Nat} {t : TypeId} {a b : Value} (h : Blk w g t #[a, b]) : w.cell? ⟨g, 0, none⟩ = some a ∧ w.cell? ⟨g, 1, none⟩ = some b := ⟨by rw [h.cell]; rfl, by rw [h.cell]; rfl⟩
theorem growOwn {w : World} {B N G : Nat} {e : TypeId} {z : Array Value} (hz : z.size = 5) (hB : B ≤ w.heap.size) (hG : N ≤ G) (hm : G ≤ maxLen) :
    ((w.drew.alloc (.cells (([] : List Value).toArray ++ Builtin.zeroCells z N ++ Builtin.zeroCells z (G - N)) e))).ownsRow B e 5 (.slice (some ⟨w.heap.size, 0, none⟩) 0 G) 0 [] := by
  refine ⟨rfl, .inr ⟨w.heap.size, G, _, rfl, hB, heap_alloc_new w.drew _, Nat.zero_le _, hm, ?_, by simp⟩⟩
  simp [Builtin.zeroCells, hz]
  rw [← Nat.add_mul]
  congr 1
  omega
/-- A row of the call's own with room for N commands; none is in it. -/
theorem implGrow_any (N : Nat) (w : World) (hN : N ≤ 2097152) :
    Calls Tryd.prog 65 #[.slice none 0 0, .int .i64 N] w fun e w' => (∃ v, e = .returned v ∧ w'.ownsRow w.heap.size 52 5 v 0 []) ∧ Below w.heap.size w w' := by
  obtain ⟨i0, hi0, hj0, hj1, hj2⟩ := info_parts infoK
  by_cases h0 : N = 0
  · subst h0
    refine (Any8.slices_Grow_room Tryd.growK none 0 0 0 w (Nat.le_refl _) (by omega) (by omega) (Nat.le_refl _)).mono ?_
    rintro e w' ⟨rfl, rfl⟩
    exact ⟨⟨_, rfl, World.ownsRow_nil _ _ _ _⟩, Below.refl _ _⟩
  · refine (Any8.slices_Grow_grow Tryd.growK i0 (.agg #[.string ByteArray.empty, .int .i64 0, .int .i64 0, .int .i64 0, .int .i64 0]) hi0 hj0 (by rw [hj1]; omega) none 0 0 N [] w (Nat.le_refl _) (by omega) (by rw [hj2]; omega) (by omega) (by simp) (fun _ => rfl) (fun a h => by cases h)).mono ?_
    rintro e w' ⟨rfl, rfl⟩
    refine ⟨⟨_, rfl, ?_⟩, (below_drew1 (Below.refl _ _)).alloc (Nat.le_refl _) _⟩
    have hG := grownCap_ge w (0 + N) 0 52
    have hm := grownCap_le_maxLen w (0 + N) 0 52 (by unfold maxLen; omega)
    exact growOwn (w := w) (N := 0 + N) rfl (Nat.le_refl _) hG hm

set_option maxHeartbeats 2000000 in
theorem implConcat_any (A : Option Addr) (n c : Nat) (l : List Cmd) (B : Option Addr) (m d : Nat) (ks : List Cmd) (h : Nat) (wr0 : World) (hn : n ≤ 1048576) (hm' : m ≤ 1048576) (hl : l.length = n) (hk : ks.length = m) (ha : At encK 5 wr0 A l) (hb : At encK 5 wr0 B ks)
    (P : Blk wr0 h 24 #[.slice A n c, .slice B m d]) :
    Calls Tryd.prog 45 #[.slice (some ⟨h, 0, none⟩) 2 2] wr0 fun e w' => (∃ v, e = .returned v ∧ w'.ownsRow wr0.heap.size 52 5 v (n + m) ((l ++ ks).flatMap encK)) ∧ Below wr0.heap.size wr0 w' := by
  obtain ⟨i0, hi0, hj0, hj1, hj2⟩ := info_parts infoK
  obtain ⟨s0, hsi, hsj0, hsj1, hsj2⟩ := info_parts infoSl
  have HL := Lib.hid hl
  have HK := Lib.hid hk
  clear hl hk
  have hidx0 : ∀ W, (Instr.indexAt 88 (.slice (some ⟨h, 0, none⟩) 2 2) (.int .i64 0)).run Tryd.prog W = .ok (.pointer (some ⟨h, 0, none⟩)) W := fun W => by
    have := run_index_one (c := 2) (A := some ⟨h, 0, none⟩) (n := 2) (j := 0) Tryd.underlying88 hsi hsj1 rfl (by omega) W
    simpa using this
  have hidx1 : ∀ W, (Instr.indexAt 88 (.slice (some ⟨h, 0, none⟩) 2 2) (.int .i64 1)).run Tryd.prog W = .ok (.pointer (some ⟨h, 1, none⟩)) W := fun W => by
    have := run_index_one (c := 2) (A := some ⟨h, 0, none⟩) (n := 2) (j := 1) Tryd.underlying88 hsi hsj1 rfl (by omega) W
    simpa using this
  obtain ⟨p0, p1⟩ := blk_two P
  go_enter Tryd.func45, Tryd.ntmps45
  go_wp2_with fail
  go_loopw [3, 11] (fun s i wr => (i = .int .i64 0 ∧ s = .int .i64 0 ∨ i = .int .i64 1 ∧ s = .int .i64 n ∨ i = .int .i64 2 ∧ s = .int .i64 ((n + m : Nat) : Int)) ∧ wr = wr0) (fun _ i _ => (2 - intOf i).toNat)
  case atStart => exact ⟨.inl ⟨rfl, rfl⟩, rfl⟩
  case round =>
    obtain ⟨hc, hw⟩ := hrel
    have hw2 := hw.symm
    clear hw
    subst hw2
    obtain ⟨rfl, rfl⟩ | ⟨rfl, rfl⟩ | ⟨rfl, rfl⟩ := hc
    · have h3 : ¬ ((n : Int) < 0) := by omega
      go_wp2_with fail
      go_roundw
      case rel => exact ⟨.inr (.inl ⟨by go_num, by first | rfl | go_num⟩), by first | trivial | rfl⟩
      case measure => simp [intOf]
    · have h3 : ¬ ((n : Int) + (m : Int) < 0) := by omega
      go_wp2_with fail
      go_roundw
      case rel => exact ⟨.inr (.inr ⟨by go_num, by first | rfl | go_num⟩), by first | trivial | rfl⟩
      case measure => simp [intOf]
    · go_wp2_with fail
      refine (implGrow_any (n + m) _ (by omega)).mono ?_
      rintro e w1 ⟨⟨v, rfl, ho1⟩, hb1⟩
      have hs1 := hb1.size
      clear p0 p1
      go_wp2_with fail
      go_loopw [6, 27] (fun v i wr => (i = .int .i64 0 ∧ wr.ownsRow wr0.heap.size 52 5 v 0 [] ∨ i = .int .i64 1 ∧ wr.ownsRow wr0.heap.size 52 5 v n (l.flatMap encK) ∨ i = .int .i64 2 ∧ wr.ownsRow wr0.heap.size 52 5 v (n + m) ((l ++ ks).flatMap encK)) ∧ Below wr0.heap.size wr0 wr) (fun _ i _ => (2 - intOf i).toNat)
      case atStart => exact ⟨.inl ⟨rfl, ho1⟩, hb1⟩
      case round =>
        clear ho1 hb1 hs1
        obtain ⟨⟨rfl, ho⟩ | ⟨rfl, ho⟩ | ⟨rfl, ho⟩, hbw⟩ := hrel
        · obtain ⟨p0, p1⟩ := blk_two (P.belowS hbw)
          have hs := hbw.size
          go_wp2_with (at_builtin; refine wpList_append_at _ rfl _ _ 24 rfl wr0.heap.size 52 i0 (.agg #[.string ByteArray.empty, .int .i64 0, .int .i64 0, .int .i64 0, .int .i64 0]) 5 48 Tryd.underlying24 hi0 hj0 hj1 hj2 rfl (by decide) _ 0 _ rfl ho encK_len encK_one A n _ l rfl HL.out (ha.belowS hbw) (by unfold maxLen; omega) (by omega) (by omega) ?_; intro v3 w3 ho3 hg3 hv3)
          go_roundw
          case rel => exact ⟨.inr (.inl ⟨by go_num, by simpa using ho3⟩), below_app hbw hg3 (own_ge ho)⟩
          case measure => simp [intOf]
        · obtain ⟨p0, p1⟩ := blk_two (P.belowS hbw)
          have hs := hbw.size
          go_wp2_with (at_builtin; refine wpList_append_at _ rfl _ _ 24 rfl wr0.heap.size 52 i0 (.agg #[.string ByteArray.empty, .int .i64 0, .int .i64 0, .int .i64 0, .int .i64 0]) 5 48 Tryd.underlying24 hi0 hj0 hj1 hj2 rfl (by decide) _ n _ rfl ho encK_len encK_one B m _ ks rfl HK.out (hb.belowS hbw) (by unfold maxLen; omega) (by omega) (by omega) ?_; intro v3 w3 ho3 hg3 hv3)
          go_roundw
          case rel => exact ⟨.inr (.inr ⟨by go_num, by rw [List.flatMap_append]; exact ho3⟩), below_app hbw hg3 (own_ge ho)⟩
          case measure => simp [intOf]
        · go_wp2_with fail
          go_ret
          exact ⟨⟨_, rfl, ho⟩, hbw⟩

set_option maxHeartbeats 2000000 in
theorem implCanonJoin_any (A : Option Addr) (n c : Nat) (l : List Cmd) (B : Option Addr) (m d : Nat) (ks : List Cmd) (w : World) (hn : n ≤ 1048576) (hm' : m ≤ 1048576) (hl : l.length = n) (hk : ks.length = m) (ha : At encK 5 w A l) (hb : At encK 5 w B ks) (hz : ∀ q ∈ l, q.p.size ≤ 1048576) (hzk : ∀ q ∈ ks, q.p.size ≤ 1048576) (hmx : MaxAt w) :
    Calls Tryd.prog 20 #[.slice A n c, .slice B m d] w (OutB encK 5 52 (CanR (l ++ ks)) w) := by
  have HL := Lib.hid hl
  have HK := Lib.hid hk
  have HMX := Lib.hid hmx
  have HLK := Lib.hid (show (l ++ ks).length = n + m by rw [List.length_append, HL.out, HK.out])
  clear hl hk hmx
  have P0 := Blk.new w 24 #[.slice A n c, .slice B m d]
  have bw0 := below_alloc (Below.refl w.heap.size w) (.cells #[.slice A n c, .slice B m d] 24)
  go_enter Tryd.func20, Tryd.ntmps20
  go_wp2_with fail
  refine (implConcat_any A n c l B m d ks w.heap.size _ hn hm' HL.out HK.out (ha.belowS bw0) (hb.belowS bw0) P0).mono ?_
  rintro e w1 ⟨⟨v, rfl, ho1⟩, hb1⟩
  have bw1 := below_step bw0 hb1
  obtain ⟨A3, c3, rfl, -, -, -⟩ := own_form ho1
  have hnm : n + m ≤ 2097152 := by omega
  clear P0 bw0 hb1
  go_wp2_with fail
  refine (implLogCanon_any A3 (n + m) c3 (l ++ ks) _ hnm HLK.out (own_at encK_len ho1 HLK.out) (fun q hq => by rcases List.mem_append.1 hq with h | h; exact hz q h; exact hzk q h) (HMX.out.belowS bw1)).mono ?_
  rintro e w4 ⟨A4, c4, ys, b, rfl, hR, ho4, hb4⟩
  go_wp2_with fail
  refine bodyPost_ret (v := .tuple #[.slice A4 ys.length c4, .bool b]) (by simp [results, Tryd.results20, go_sem]) rfl ?_
  exact ⟨A4, c4, ys, b, rfl, hR, own_mono ho4 bw1.size, below_step bw1 hb4⟩
theorem CanR.len20 {l m : List Cmd} {b : Bool} (h : CanR l m b) : m.length ≤ 20 := by
  cases hb : okLog l with
  | false => rw [h.1, canF_bad hb]; exact Nat.zero_le _
  | true =>
    have h1 := h.len
    unfold okLog at hb
    simp at hb
    omega
end Go.Proofs.YthcfjiapmigjiaaDoor
