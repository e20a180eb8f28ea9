/- Which texts are paths, by both texts. -/
import Derived.Test.YthcfjiapmigjiaaDoorPath
import Derived.Test.YthcfjiapmigjiaaDoorShelf
import Derived.Test.YthcfjiapmigjiaaDoorContent
import Derived.Test.YthcfjiapmigjiaaDoorSub
namespace Go.Proofs.YthcfjiapmigjiaaDoor
open Go.RowKit
set_option linter.unusedVariables false
set_option linter.unusedSimpArgs false
set_option maxRecDepth 20000

theorem path_cases (l : List UInt8) : l = [47] ∨ l = [] ∨ (∃ b r, l = b :: r ∧ b ≠ 47) ∨ (∃ r, l = 47 :: r ∧ r ≠ []) := by
  cases l with
  | nil => exact .inr (.inl rfl)
  | cons b r =>
    by_cases hb : b = 47
    · subst hb
      by_cases hr : r = []
      · subst hr; exact .inl rfl
      · exact .inr (.inr (.inr ⟨r, rfl, hr⟩))
    · exact .inr (.inr (.inl ⟨b, r, rfl, hb⟩))
theorem toList_is {s : ByteArray} {l : List UInt8} (h : s.data.toList = l) : s.toList = l := (ByteArray.toList_eq s).trans h
theorem toList_beq {s : ByteArray} {l : List UInt8} (h : s.data.toList = l) (m : List UInt8) : (s.toList == m) = decide (l = m) := by rw [toList_is h]; cases hd : decide (l = m) <;> simp_all
theorem size_is {s : ByteArray} {l : List UInt8} (h : s.data.toList = l) : s.size = l.length := by rw [Lib.size_eq, h]
theorem head_is {s : ByteArray} {b : UInt8} {r : List UInt8} (h : s.data.toList = b :: r) (h0 : 0 < s.size) : s[0] = b := by
  have h1 := byte_at h0
  rw [h] at h1
  injection h1 with h1
  exact h1.symm
theorem byte_ne {a c : UInt8} (h : a ≠ c) : ((a.toNat : Int) != (c.toNat : Int)) = true := by
  rw [bne_iff_ne]; intro e; exact h (UInt8.toNat_inj.1 (by omega))
theorem all_take_out {ps : List ByteArray} {k : Nat} (hk : k < ps.length) (h : nameB ps[k].data.toList = false) : (ps.map (·.data.toList)).all nameB = false := by
  rw [List.all_eq_false]
  exact ⟨_, List.mem_map.2 ⟨ps[k], List.getElem_mem _, rfl⟩, by rw [h]; simp⟩

set_option maxHeartbeats 1000000 in
theorem specPath_any (s : ByteArray) (w : World) (hs : s.size ≤ 1048576) : Calls Tryd.prog 66 #[.string s] w fun e w' => e = .returned (.bool (pathB s.data.toList)) ∧ Below w.heap.size w w' := by
  obtain ⟨i0, hi, hz0, hz1, hz2⟩ := info_parts infoStr
  rcases path_cases s.data.toList with hl | hl | ⟨b, r, hl, hb⟩ | ⟨r, hl, hr⟩
  · have h1 : (s.toList == [47]) = true := by rw [toList_beq hl]; rfl
    have H := Lib.hid (show pathB s.data.toList = true by rw [hl]; exact pathB_root)
    clear hl
    go_enter Tryd.func66, Tryd.ntmps66
    go_wp2_with fail
    go_ret
    exact ⟨ret_bool H.out.symm, Below.refl _ _⟩
  · have h1 : (s.toList == [47]) = false := by rw [toList_beq hl]; rfl
    have hz : ((s.size : Int) == 0) = true := by rw [size_is hl]; rfl
    have H := Lib.hid (show pathB s.data.toList = false by rw [hl]; rfl)
    have hz0 : s.size = 0 := size_is hl
    clear hl
    go_enter Tryd.func66, Tryd.ntmps66
    go_wp2_with fail
    go_ret
    exact ⟨ret_bool H.out.symm, Below.refl _ _⟩
  · have h1 : (s.toList == [47]) = false := by rw [toList_beq hl]; simp [hb]
    have hp : 0 < s.size := by rw [size_is hl]; simp
    have hz : ((s.size : Int) == 0) = false := beq_eq_false_iff_ne.2 (by omega)
    have h0 : ((s[0].toNat : Int) != 47) = true := byte_ne (show s[0] ≠ 47 by rw [head_is hl hp]; exact hb)
    have H := Lib.hid (show pathB s.data.toList = false from pathB_other (by rw [hl]; simpa using hb))
    clear hl
    go_enter Tryd.func66, Tryd.ntmps66
    go_wp2_with fail
    go_ret
    exact ⟨ret_bool H.out.symm, Below.refl _ _⟩
  · have h1 : (s.toList == [47]) = false := by rw [toList_beq hl]; simp [hr]
    have hp : 0 < s.size := by rw [size_is hl]; simp
    have hz : ((s.size : Int) == 0) = false := beq_eq_false_iff_ne.2 (by omega)
    have h0 : ((s[0].toNat : Int) != 47) = false := by rw [head_is hl hp]; rfl
    have H := Lib.hid (show pathB s.data.toList = ((splitC 47 r).all nameB && decide ((splitC 47 r).length ≤ 4)) by rw [hl]; exact pathB_slash r hr)
    have HR := Lib.hid (show s.data.toList.drop 1 = r by rw [hl]; rfl)
    clear hl
    go_enter Tryd.func66, Tryd.ntmps66
    go_wp2_with fail
    refine (specNames_any s _ hs hp).mono ?_
    rw [HR.out]
    rintro e w1 ⟨ps, A, c, rfl, hps, ho, hb1⟩
    obtain ⟨N, hN⟩ : ∃ N, ps.length = N := ⟨_, rfl⟩
    have HN := Lib.hid hN
    have at1 := own_at encS_len ho rfl
    rw [hN] at ho ⊢
    have HPS := Lib.hid hps
    have hNb : N ≤ 1048577 := by
      rw [← hN]; have h2 := congrArg List.length hps; rw [List.length_map, splitC_len] at h2
      have h3 := List.count_le_length (a := (47 : UInt8)) (l := r)
      have h4 := congrArg List.length HR.out
      rw [List.length_drop, ← Lib.size_eq] at h4; omega
    clear hN hps ho
    go_wp2_with fail
    go_loop [4] (fun i => ∃ k : Nat, i = .int .i64 k ∧ k ≤ N ∧ ((ps.map (·.data.toList)).take k).all nameB = true) (fun i => N - (intOf i).toNat)
    case atStart => exact ⟨0, rfl, Nat.zero_le _, rfl⟩
    case round =>
      obtain ⟨k, rfl, hk, hall⟩ := hrel
      have HA := Lib.hid hall
      clear hall
      by_cases hlt : k < N
      · have hlk : k < ps.length := by rw [HN.out]; exact hlt
        have hidx := fun W => run_index_one (c := c) Tryd.underlying47 hi hz1 (at1.addr (by rw [HN.out]; omega)) hlt W
        have c1 : w1.cell? ⟨blk A, off A + k, none⟩ = some (.string ps[k]) := at1.cell1 hlk rfl
        cases hn : nameB ps[k].data.toList with
        | true =>
          have HNM := Lib.hid hn
          clear hn
          go_wp2_with fail
          refine (specName_any _ _).mono ?_
          rw [HNM.out]
          rintro e w' ⟨rfl, rfl⟩
          go_wp2_with fail
          go_round
          case rel =>
            refine ⟨k + 1, by go_num, by omega, ?_⟩
            rw [take_snoc' _ k (by simpa using hlk), List.all_append, HA.out]; simp [HNM.out]
          case measure => simp [intOf]; omega
        | false =>
          have HO := Lib.hid (all_take_out hlk hn)
          have HNM := Lib.hid hn
          clear hn
          go_wp2_with fail
          refine (specName_any _ _).mono ?_
          rw [HNM.out]
          rintro e w' ⟨rfl, rfl⟩
          go_wp2_with fail
          go_ret
          exact ⟨ret_bool (b := false) (by rw [H.out, ← HPS.out, HO.out]; rfl), hb1⟩
      · obtain rfl : N = k := by omega
        have hall := HA.out
        rw [List.take_of_length_le (by rw [List.length_map, HN.out]; exact Nat.le_refl _)] at hall
        have HAA := Lib.hid hall
        clear hall
        go_wp2_with fail
        go_ret
        refine ⟨ret_bool ?_, hb1⟩
        rw [H.out, ← HPS.out, HAA.out, List.length_map, HN.out]; simp; omega

/-- What the library's look-up of a length reads. -/
def MaxAt (w : World) : Prop := ∃ m : Int, w.cell? ⟨0, 0, none⟩ = some (.int .i64 m)
theorem MaxAt.belowS {w w' : World} (h : MaxAt w) (hb : Below w.heap.size w w') : MaxAt w' := by
  obtain ⟨m, hm⟩ := h
  refine ⟨m, ?_⟩
  rw [hb.cell (p := ⟨0, 0, none⟩) ?_]
  · exact hm
  · rcases Nat.lt_or_ge 0 w.heap.size with hl | hl
    · exact hl
    · unfold World.cell? at hm
      rw [Array.getElem?_eq_none hl] at hm
      cases hm
theorem maxAt_of {w : World} (h : w.ShapedOpen Tryd.prog) : MaxAt w := Tryd.laysM146.s1_3 w h
theorem flat_encS (ps : List ByteArray) : ps.flatMap encS = ps.map Value.string := by
  induction ps with
  | nil => rfl
  | cons x l ih => simp [List.flatMap_cons, encS] at ih ⊢; exact ih
theorem split_any (c : UInt8) (s : ByteArray) (w : World) (hs : s.size ≤ 1048576) (hm : MaxAt w) : Calls Tryd.prog 69 #[.string s, .string ⟨#[c]⟩] w (Pieces (splitC c s.data.toList) w) := by
  obtain ⟨m, hm⟩ := hm
  refine (Tryd.strings_Split s ⟨#[c]⟩ m w (by omega) hm (Nat.le_refl 1)).mono ?_
  rintro e w' ⟨rfl, rfl⟩
  have hl : (Lib.splitB ⟨#[c]⟩ 0 (Lib.countB s ⟨#[c]⟩) s).length = Lib.countB s ⟨#[c]⟩ + 1 := Lib.splitB_all ⟨#[c]⟩ (Nat.le_refl 1) 0 _ s rfl
  refine Pieces.of hl (splitB_eq c s) ?_ ((Below.refl _ _).alloc (Nat.le_refl _) _)
  have h := World.ownsRow_lit (base := w.heap.size) (e := 9) (size := 1) w ((Lib.splitB ⟨#[c]⟩ 0 (Lib.countB s ⟨#[c]⟩) s).map Value.string).toArray (Lib.countB s ⟨#[c]⟩ + 1) (Nat.le_refl _) (by
    have := Lib.countB_le ⟨#[c]⟩ (Nat.le_refl 1) _ s (Nat.le_refl _); unfold maxLen; omega) (by simp [hl])
  rw [flat_encS]
  exact h

theorem own_caps' {w : World} {base : Nat} {e : TypeId} {k n m c : Nat} {A : Option Addr} {cs : List Value} (h : w.ownsRow base e k (.slice A m c) n cs) : n ≤ c ∧ c ≤ 9223372036854775807 := by
  obtain ⟨A', c', hv, h1, h2, _⟩ := own_form h
  injection hv with _ _ h3
  subst h3
  exact ⟨h1, by unfold maxLen at h2; omega⟩
set_option maxHeartbeats 1000000 in
theorem implPath_any (s : ByteArray) (w : World) (hs : s.size ≤ 1048576) (hm : MaxAt w) : Calls Tryd.prog 52 #[.string s] w fun e w' => e = .returned (.bool (pathB s.data.toList)) ∧ Below w.heap.size w w' := by
  obtain ⟨i0, hi, hz0, hz1, hz2⟩ := info_parts infoStr
  have HMAX := Lib.hid hm
  clear hm
  rcases path_cases s.data.toList with hl | hl | ⟨b, r, hl, hb⟩ | ⟨r, hl, hr⟩
  · have h1 : (s.toList == [47]) = true := by rw [toList_beq hl]; rfl
    have H := Lib.hid (show pathB s.data.toList = true by rw [hl]; exact pathB_root)
    clear hl
    go_enter Tryd.func52, Tryd.ntmps52
    go_wp2_with fail
    go_ret
    exact ⟨ret_bool H.out.symm, Below.refl _ _⟩
  · have h1 : (s.toList == [47]) = false := by rw [toList_beq hl]; rfl
    have H := Lib.hid (show pathB s.data.toList = false by rw [hl]; rfl)
    have HS := Lib.hid (show splitC 47 s.data.toList = [[]] by rw [hl]; rfl)
    clear hl
    go_enter Tryd.func52, Tryd.ntmps52
    go_wp2_with fail
    refine (split_any 47 s _ hs HMAX.out).mono ?_
    rw [HS.out]
    rintro e w1 ⟨ps, A, c, rfl, hps, ho, hb1⟩
    obtain ⟨p, t, rfl⟩ : ∃ p t, ps = p :: t := by
      cases ps with
      | nil => cases hps
      | cons p t => exact ⟨p, t, rfl⟩
    have hp : p.data.toList = [] := (List.cons.inj hps).1
    obtain rfl : t = [] := List.map_eq_nil_iff.1 (List.cons.inj hps).2
    have at1 := own_at encS_len ho rfl
    have hidx : ∀ W, (Instr.indexAt 47 (.slice A 1 c) (.int .i64 0)).run Tryd.prog W = .ok (.pointer (some ⟨blk A, off A, none⟩)) W := fun W => run_index_one (c := c) (j := 0) Tryd.underlying47 hi hz1 (at1.addr (by simp)) (by omega) W
    have c1 : w1.cell? ⟨blk A, off A, none⟩ = some (.string p) := at1.cell1 (j := 0) (by simp) rfl
    have hp1 : (p.toList == []) = true := by rw [toList_beq hp]; rfl
    clear hps ho hp
    simp only [List.length_cons, List.length_nil, Nat.zero_add]
    go_wp2_with (go_at_call 70; refine (implIn_any _ _ _ _).mono ?_; rintro e w' ⟨rfl, rfl⟩)
    go_ret
    exact ⟨ret_bool H.out.symm, hb1⟩
  · have h1 : (s.toList == [47]) = false := by rw [toList_beq hl]; simp [hb]
    have H := Lib.hid (show pathB s.data.toList = false from pathB_other (by rw [hl]; simpa using hb))
    obtain ⟨x, t', hsp⟩ : ∃ x t, splitC 47 (b :: r) = (b :: x) :: t := by
      unfold splitC
      rw [if_neg hb]
      split
      · exact ⟨[], [], rfl⟩
      · exact ⟨_, _, rfl⟩
    have HS := Lib.hid (show splitC 47 s.data.toList = (b :: x) :: t' by rw [hl]; exact hsp)
    clear hl hsp
    go_enter Tryd.func52, Tryd.ntmps52
    go_wp2_with fail
    refine (split_any 47 s _ hs HMAX.out).mono ?_
    rw [HS.out]
    rintro e w1 ⟨ps, A, c, rfl, hps, ho, hb1⟩
    obtain ⟨p, t, rfl⟩ : ∃ p t, ps = p :: t := by
      cases ps with
      | nil => cases hps
      | cons p t => exact ⟨p, t, rfl⟩
    have hp : p.data.toList = b :: x := (List.cons.inj hps).1
    have at1 := own_at encS_len ho rfl
    obtain ⟨N, hN⟩ : ∃ N, (p :: t).length = N := ⟨_, rfl⟩
    have hN0 : 0 < N := by rw [← hN]; simp
    have hidx : ∀ W, (Instr.indexAt 47 (.slice A N c) (.int .i64 0)).run Tryd.prog W = .ok (.pointer (some ⟨blk A, off A, none⟩)) W := fun W => run_index_one (c := c) (j := 0) Tryd.underlying47 hi hz1 (at1.addr (by simp)) hN0 W
    have c1 : w1.cell? ⟨blk A, off A, none⟩ = some (.string p) := at1.cell1 (j := 0) (by simp) rfl
    have hp1 : (p.toList == []) = false := by rw [toList_beq hp]; rfl
    rw [hN]
    clear hps ho hp hN
    go_wp2_with (go_at_call 70; refine (implIn_any _ _ _ _).mono ?_; rintro e w' ⟨rfl, rfl⟩)
    go_ret
    exact ⟨ret_bool H.out.symm, hb1⟩
  · have h1 : (s.toList == [47]) = false := by rw [toList_beq hl]; simp [hr]
    have H := Lib.hid (show pathB s.data.toList = ((splitC 47 r).all nameB && decide ((splitC 47 r).length ≤ 4)) by rw [hl]; exact pathB_slash r hr)
    have HS := Lib.hid (show splitC 47 s.data.toList = [] :: splitC 47 r by rw [hl]; simp [splitC])
    have hlen : r.length + 1 = s.size := by rw [size_is hl]; rfl
    clear hl
    go_enter Tryd.func52, Tryd.ntmps52
    go_wp2_with fail
    refine (split_any 47 s _ hs HMAX.out).mono ?_
    rw [HS.out]
    rintro e w1 ⟨ps, A, c, rfl, hps, ho, hb1⟩
    obtain ⟨p, t, rfl⟩ : ∃ p t, ps = p :: t := by
      cases ps with
      | nil => cases hps
      | cons p t => exact ⟨p, t, rfl⟩
    have hp : p.data.toList = [] := (List.cons.inj hps).1
    have ht : t.map (·.data.toList) = splitC 47 r := (List.cons.inj hps).2
    have at1 := own_at encS_len ho rfl
    obtain ⟨hNc, hcm⟩ := own_caps' ho
    obtain ⟨N, hN⟩ : ∃ N, t.length = N := ⟨_, rfl⟩
    have hN0 : 1 ≤ N := by rw [← hN]; have h2 := congrArg List.length ht; rw [List.length_map, splitC_len] at h2; omega
    have hNb : N ≤ 1048577 := by
      rw [← hN]; have h2 := congrArg List.length ht; rw [List.length_map, splitC_len] at h2
      have h3 := List.count_le_length (a := (47 : UInt8)) (l := r)
      omega
    have hidx : ∀ W, (Instr.indexAt 47 (.slice A (N + 1) c) (.int .i64 0)).run Tryd.prog W = .ok (.pointer (some ⟨blk A, off A, none⟩)) W := fun W => run_index_one (c := c) (j := 0) Tryd.underlying47 hi hz1 (at1.addr (by simp)) (by omega) W
    have c1 : w1.cell? ⟨blk A, off A, none⟩ = some (.string p) := at1.cell1 (j := 0) (by simp) rfl
    have hp1 : (p.toList == []) = true := by rw [toList_beq hp]; rfl
    have hsub : At encS 1 w1 (sub A c 1 1) t := by
      have := at1.sub (c := c) (lo := 1) (m := t.length) hNc (by simp; omega)
      rwa [show ((p :: t).drop 1).take t.length = t from by simp] at this
    rw [List.length_cons, hN] at hNc
    have hsl : ∀ W, (Instr.slice 47 (.slice A (N + 1) c) (some (.int .i64 1)) none none).run Tryd.prog W = .ok (.slice (sub A c 1 1) N (c - 1)) W := fun W => run_slice_from Tryd.underlying47 hi hz1 A (N + 1) c W 1 (by omega)
    rw [List.length_cons, hN]
    have HN := Lib.hid hN
    have HT := Lib.hid ht
    clear hps ho hp hN ht at1 hlen
    by_cases h4 : N ≤ 4
    case neg =>
      have hin : inB (N : Int) 1 4 = false := by unfold inB; rw [decide_eq_false_iff_not]; omega
      go_wp2_with (go_at_call 70; refine (implIn_any _ _ _ _).mono ?_; rintro e w' ⟨rfl, rfl⟩)
      go_ret
      refine ⟨ret_bool ?_, hb1⟩
      rw [H.out, ← HT.out, List.length_map, HN.out]
      have : decide (N ≤ 4) = false := decide_eq_false h4
      rw [this, Bool.and_false]
    case pos =>
      have hin : inB (N : Int) 1 4 = true := by unfold inB; rw [decide_eq_true_eq]; omega
      go_wp2_with (go_at_call 70; refine (implIn_any _ _ _ _).mono ?_; rintro e w' ⟨rfl, rfl⟩)
      clear hidx c1 hp1 hin
      go_loop [24] (fun i => ∃ k : Nat, i = .int .i64 k ∧ k ≤ N ∧ ((t.map (·.data.toList)).take k).all nameB = true) (fun i => N - (intOf i).toNat)
      case atStart => exact ⟨0, rfl, Nat.zero_le _, rfl⟩
      case round =>
        obtain ⟨k, rfl, hk, hall⟩ := hrel
        have HA := Lib.hid hall
        clear hall
        by_cases hlt : k < N
        · have hlk : k < t.length := by rw [HN.out]; exact hlt
          have hidx := fun W => run_index_one (c := c - 1) Tryd.underlying47 hi hz1 (hsub.addr (by rw [HN.out]; omega)) hlt W
          have c1 : w1.cell? ⟨blk (sub A c 1 1), off (sub A c 1 1) + k, none⟩ = some (.string t[k]) := hsub.cell1 hlk rfl
          cases hn : nameB t[k].data.toList with
          | true =>
            have HNM := Lib.hid hn
            clear hn
            go_wp2_with fail
            refine (implName_any _ _).mono ?_
            rw [HNM.out]
            rintro e w' ⟨rfl, rfl⟩
            go_wp2_with fail
            go_round
            case rel =>
              refine ⟨k + 1, by go_num, by omega, ?_⟩
              rw [take_snoc' _ k (by simpa using hlk), List.all_append, HA.out]; simp [HNM.out]
            case measure => simp [intOf]; omega
          | false =>
            have HO := Lib.hid (all_take_out hlk hn)
            have HNM := Lib.hid hn
            clear hn
            go_wp2_with fail
            refine (implName_any _ _).mono ?_
            rw [HNM.out]
            rintro e w' ⟨rfl, rfl⟩
            go_wp2_with fail
            go_ret
            exact ⟨ret_bool (b := false) (by rw [H.out, ← HT.out, HO.out]; rfl), hb1⟩
        · obtain rfl : N = k := by omega
          have hall := HA.out
          rw [List.take_of_length_le (by rw [List.length_map, HN.out]; exact Nat.le_refl _)] at hall
          have HAA := Lib.hid hall
          clear hall
          go_wp2_with fail
          go_ret
          refine ⟨ret_bool ?_, hb1⟩
          rw [H.out, ← HT.out, HAA.out, List.length_map, HN.out]; simp; omega
end Go.Proofs.YthcfjiapmigjiaaDoor
