/- Tables of bodies are drawn; frames are damaged. -/
import Derived.Test.YtnlgpjloedoebaaDraw3
import Derived.Test.YtnlgpjloedoebaaFramesOf
namespace Go.Proofs.Ytnlgpjloedoebaa
open Go.RowKit
set_option linter.unusedVariables false
set_option linter.unusedSimpArgs false

theorem Rows1.farG {w w' : World} {base g : Nat} {v : Value} {rows : List RowI} (h : Rows1 w base v rows) (hg : w.grownBy w' (some g)) (hB : g < base) : Rows1 w' base v rows :=
  ⟨own_farG h.outer hg hB, fun r hr => own_farG (h.inner r hr) hg hB, h.apart⟩
theorem Rows1.lts {w : World} {base : Nat} {v : Value} {rows : List RowI} (h : Rows1 w base v rows) : ∀ s ∈ rows, ∀ b, (Value.slice s.A s.zs.length s.c).ownBlock = some b → b < w.heap.size := fun s hs b hb => ((h.inner s hs).lt b hb).2
theorem Rows1.push2 {w1 w' : World} {base B : Nat} {v v' : Value} {rows : List RowI} {r : RowI} (h1 : Rows1 w1 base v rows) (hlt : ∀ s ∈ rows, ∀ b, (Value.slice s.A s.zs.length s.c).ownBlock = some b → b < B) (hbase : base ≤ B)
    (hr : w1.ownsRow B 3 1 (.slice r.A r.zs.length r.c) r.zs.length (r.zs.flatMap encI))
    (ho : w'.ownsRow base 32 1 v' (rows.length + 1) (rows.flatMap encR ++ [r].flatMap encR)) (hg : w1.grownBy w' v.ownBlock) : Rows1 w' base v' (rows ++ [r]) := by
  refine ⟨by rw [List.length_append, List.flatMap_append]; exact ho, fun s hs => ?_, ?_⟩
  · rcases List.mem_append.1 hs with hs | hs
    · exact (h1.inner s hs).kept hg (own_types (h1.inner s hs) h1.outer (by decide))
    · simp at hs; subst hs
      exact own_mono (hr.kept hg (own_types hr h1.outer (by decide))) hbase
  · refine List.pairwise_append.2 ⟨h1.apart, List.pairwise_singleton _ _, fun s hs t ht => ?_⟩
    simp at ht; subst ht
    intro g h2 h3
    have := hlt s hs g h2
    have := (hr.lt g h3).1
    omega

/-- What is drawn as bodies. -/
def DrawnT (g q : Nat) (w : World) (e : Ending) (w' : World) : Prop := ∃ (rows : List RowI) (A : Option Addr) (c : Nat), e = .returned (.slice A rows.length c) ∧ Rows1 w' w.heap.size (.slice A rows.length c) rows ∧ rows.length ≤ 41 ∧ (∀ r ∈ rows, r.zs.length ≤ 17 ∧ ∀ z ∈ r.zs, -1 ≤ z ∧ z ≤ 256) ∧ Rd w' g (q + 1500) ∧ w.grownBy w' (some g)

set_option maxHeartbeats 2000000 in
theorem l91Bodies_any (g q : Nat) (w : World) (hr : Rd w g q) (hq : q ≤ 249755813888) :
    Calls Try.prog 55 #[.pointer (some ⟨g, 0, none⟩)] w (DrawnT g q w) := by
  have hgl := hr.lt
  obtain ⟨j0, ji, jz0, jz1, jz2⟩ := info_parts infoSl
  go_enter Try.func55, Try.ntmps55
  go_wp2_with fail
  refine (pick_any 6 g q _ (hr.alloc _) (by omega) (by omega) (by omega)).mono ?_
  rintro e w1 ⟨r1, rfl, h10, h11, -, hr1, hg1⟩
  have hl1 := h11 (by omega)
  clear h11
  have ho1 := own_farG ((World.ownsRow_lit (base := w.heap.size) (e := 32) (size := 1) w #[] 0 (Nat.le_refl _) (by decide) rfl)) hg1 hgl
  have hw1 := grown_two (World.grownBy_alloc w _ (some g)) hg1
  go_wp2_with fail
  refine (pick_any 20 g (q + 1) _ hr1 (by omega) (by omega) (by omega)).mono ?_
  rintro e w2 ⟨r2, rfl, h20, h21, -, hr2, hg2⟩
  have hl2 := h21 (by omega)
  clear h21
  have ho2 := own_farG ho1 hg2 hgl
  have hw2 := grown_two hw1 hg2
  go_upto_if 12 with (fail)
  go_cut [4] (fun n wx => ∃ N : Nat, n = .int .i64 N ∧ N ≤ 41 ∧ wx.ownsRow w.heap.size 32 1 (.slice (some ⟨w.heap.size, 0, none⟩) 0 0) 0 [] ∧ Rd wx g (q + 3) ∧ w.grownBy wx (some g))
  case first =>
    by_cases k0 : r2 = 0
    · subst k0
      go_wp2_with fail
      refine (pick_any 2 g (q + 2) _ hr2 (by omega) (by omega) (by omega)).mono ?_
      rintro e w3 ⟨r3, rfl, h30, h31, -, hr3, hg3⟩
      have hl3 := h31 (by omega)
      clear h31
      obtain ⟨N, hN⟩ : ∃ N : Nat, (N : Int) = 40 + r3 := ⟨(40 + r3).toNat, by omega⟩
      have HN := Lib.hid hN
      clear hN
      have ho3 := own_farG ho2 hg3 hgl
      have hw3 := grown_two hw2 hg3
      go_wp2_with fail
      go_meet
      exact ⟨N, by rw [HN.out], by have := HN.out; omega, ho3, hr3, hw3⟩
    · have k0' : (r2 == 0) = false := by simpa using k0
      obtain ⟨N, rfl⟩ := Int.eq_ofNat_of_zero_le h10
      clear k0
      go_wp2_with fail
      go_meet
      exact ⟨N, rfl, by omega, ho2, hr2.more (by omega), hw2⟩
  case rest =>
    obtain ⟨N, rfl, hN, ho, hrc, hwc⟩ := hcut
    clear hg1 hg2 ho1 ho2 hw1 hw2 hr1 hr2 hr
    go_wp2_with fail
    have hzc := hwc.size
    go_loopw [3, 5] (fun v i wr => ∃ (k : Nat) (rows : List RowI), i = .int .i64 k ∧ k ≤ N ∧ rows.length ≤ k ∧ (∀ r ∈ rows, r.zs.length ≤ 17 ∧ ∀ z ∈ r.zs, -1 ≤ z ∧ z ≤ 256) ∧ Rows1 wr w.heap.size v rows ∧ Rd wr g (q + 3 + 32 * k) ∧ w.grownBy wr (some g)) (fun _ i _ => N - (intOf i).toNat)
    case atStart => exact ⟨0, [], rfl, Nat.zero_le _, Nat.le_refl _, (fun r hr => by simp at hr), ⟨ho, (fun r hr => by simp at hr), List.Pairwise.nil⟩, hrc, hwc⟩
    case round =>
      obtain ⟨k, rows, rfl, hk, hrl, hrange, hro, hrk, hwk⟩ := hrel
      have hzk := hwk.size
      by_cases hlt : k < N
      · go_wp2_with fail
        refine (l91Body_any g (q + 3 + 32 * k) _ hrk (by omega)).mono ?_
        rintro e w4 ⟨l, A, c, rfl, ho4, hll, hlr, hr4, hg4⟩
        have hz4 := hg4.size
        have hro4 := hro.farG hg4 hgl
        have hlts := hro.lts
        have hw4 := grown_two hwk hg4
        have at4 := own_at encI_len ho4 rfl
        obtain ⟨m, hm⟩ : ∃ m, l.length = m := ⟨_, rfl⟩
        have HM := Lib.hid hm
        rw [hm] at ho4 hll ⊢
        clear hm
        have hnew : ∀ r ∈ rows ++ [⟨A, c, l⟩], r.zs.length ≤ 17 ∧ ∀ z ∈ r.zs, -1 ≤ z ∧ z ≤ 256 := fun r hr => by
          rcases List.mem_append.1 hr with hr | hr
          · exact hrange r hr
          · simp at hr; subst hr; exact ⟨by rw [HM.out]; exact hll, hlr⟩
        have HNEW := Lib.hid hnew
        have HRG := Lib.hid hrange
        have HLTS := Lib.hid hlts
        clear hnew hrange hlts hg4
        go_wp2_with fail
        refine (specBody_any _ _ _ l _ (by omega) HM.out at4).mono ?_
        rintro e w' ⟨rfl, rfl⟩
        by_cases hb : bodyB l = true
        · have hroA := hro4.outer.alloc (.cells #[.slice A m c] 32)
          have hro5 := hro4.belowS ((Below.refl w4.heap.size w4).alloc (Nat.le_refl _) (.cells #[.slice A m c] 32))
          have hoA := ho4.alloc (.cells #[.slice A m c] 32)
          have hn2 := at_new (enc := encR) w4 encR_len [⟨A, c, l⟩] 32 #[.slice A m c] (by simp [encR, HM.out]) (show 1 ≤ maxLen by decide)
          have hge := own_ge' hroA
          have hrA := hr4.alloc (.cells #[.slice A m c] 32)
          go_wp2_with (at_builtin; refine wpList_append_at _ rfl _ _ 39 rfl w.heap.size 32 j0 (.slice none 0 0) 1 24 Try.underlying39 ji jz0 jz1 jz2 rfl (by decide) _ rows.length _ rfl hroA encR_len encR_one _ 1 1 [⟨A, c, l⟩] rfl rfl hn2 (by unfold maxLen; omega) (by omega) (by simp; omega) ?_; intro v1 w6 ho6 hg6 hv6)
          go_roundw
          case rel =>
            refine ⟨k + 1, rows ++ [⟨A, c, l⟩], by go_num, by omega, by simp; omega, HNEW.out, Rows1.push2 hro5 HLTS.out hzk (by show World.ownsRow _ _ _ _ (.slice A l.length c) l.length _; rw [HM.out]; exact hoA) ho6 hg6, (hrA.kept hg6 ?_).more (by omega), ?_⟩
            · intro b hb; have := hge b hb; omega
            · exact grown_own (grown_two hw4 (World.grownBy_alloc w4 _ _)) hg6 hge
          case measure => simp [intOf]; omega
        · have hb' : bodyB l = false := by simpa using hb
          clear hb
          go_wp2_with fail
          refine (pick_any 8 g (q + 3 + 32 * k + 30) _ hr4 (by omega) (by omega) (by omega)).mono ?_
          rintro e w5 ⟨r5, rfl, h50, h51, -, hr5, hg5⟩
          have hl5 := h51 (by omega)
          clear h51
          have hz5 := hg5.size
          have hroX := hro4.farG hg5 hgl
          have hoX := own_farG ho4 hg5 (show g < wr.heap.size by omega)
          have hw5 := grown_two hw4 hg5
          clear hro4 ho4 hg5 at4
          by_cases k5 : r5 = 0
          · subst k5
            have hroA := hroX.outer.alloc (.cells #[.slice A m c] 32)
            have hro5 := hroX.belowS ((Below.refl w5.heap.size w5).alloc (Nat.le_refl _) (.cells #[.slice A m c] 32))
            have hoA := hoX.alloc (.cells #[.slice A m c] 32)
            have hn2 := at_new (enc := encR) w5 encR_len [⟨A, c, l⟩] 32 #[.slice A m c] (by simp [encR, HM.out]) (show 1 ≤ maxLen by decide)
            have hge := own_ge' hroA
            have hrA := hr5.alloc (.cells #[.slice A m c] 32)
            go_wp2_with (at_builtin; refine wpList_append_at _ rfl _ _ 39 rfl w.heap.size 32 j0 (.slice none 0 0) 1 24 Try.underlying39 ji jz0 jz1 jz2 rfl (by decide) _ rows.length _ rfl hroA encR_len encR_one _ 1 1 [⟨A, c, l⟩] rfl rfl hn2 (by unfold maxLen; omega) (by omega) (by simp; omega) ?_; intro v1 w6 ho6 hg6 hv6)
            go_roundw
            case rel =>
              refine ⟨k + 1, rows ++ [⟨A, c, l⟩], by go_num, by omega, by simp; omega, HNEW.out, Rows1.push2 hro5 HLTS.out hzk (by show World.ownsRow _ _ _ _ (.slice A l.length c) l.length _; rw [HM.out]; exact hoA) ho6 hg6, (hrA.kept hg6 ?_).more (by omega), ?_⟩
              · intro b hb; have := hge b hb; omega
              · exact grown_own (grown_two hw5 (World.grownBy_alloc w5 _ _)) hg6 hge
            case measure => simp [intOf]; omega
          · have k5' : (r5 == 0) = false := by simpa using k5
            clear k5
            go_wp2_with fail
            go_roundw
            case rel => exact ⟨k + 1, rows, by go_num, by omega, by omega, HRG.out, hroX, hr5.more (by omega), hw5⟩
            case measure => simp [intOf]; omega
      · obtain rfl : N = k := by omega
        go_wp2_with fail
        go_ret
        obtain ⟨A, c, rfl, _⟩ := own_form hro.outer
        exact ⟨rows, A, c, rfl, hro, by omega, hrange, hrk.more (by omega), hwk⟩
end Go.Proofs.Ytnlgpjloedoebaa
