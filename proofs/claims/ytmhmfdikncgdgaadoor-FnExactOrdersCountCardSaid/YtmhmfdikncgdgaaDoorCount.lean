/- How many orders are possible, by the reference's text. -/
import Derived.Test.YtmhmfdikncgdgaaDoorCountL
import Derived.Test.YtmhmfdikncgdgaaDoorOrd
import Derived.Test.YtmhmfdikncgdgaaDoorAppend
import Derived.Deep.RegionHeld3
import Derived.BigQuiet
import Derived.Deep.QuietTactic
namespace Go.Proofs.YtmhmfdikncgdgaaDoor
open Go.RowKit
set_option linter.unusedVariables false
set_option linter.unusedSimpArgs false
set_option maxRecDepth 20000

def encB (b : Bool) : List Value := [.bool b]
theorem encB_len (b : Bool) : (encB b).length = 1 := rfl
theorem encB_one (b : Bool) : ∀ u ∈ encB b, u.oneCell' = true := by intro u hu; simp [encB] at hu; subst hu; rfl
theorem infoB : (Tryd.prog.info? 4).map (fun i => (i.zero, i.size, i.bytes)) = some (some (.bool false), 1, 1) := by kernel_rfl

def FreeP (l : List Cmd) (us : List Bool) (x : Cmd) : Prop := ∀ d ∈ unused l us, mustC d x = false
theorem FreeP.yes {l : List Cmd} {us : List Bool} (hl : us.length = l.length) {i : Nat} (hi : i < l.length) {x : Cmd} (h : FreeP (l.take i) (us.take i) x) (hu : us[i]? = some true ∨ mustC l[i] x = false) : FreeP (l.take (i + 1)) (us.take (i + 1)) x := by
  intro d hd
  have hiu : i < us.length := by omega
  rw [unused_take hl hi (List.getElem?_eq_getElem hiu)] at hd
  rcases List.mem_append.1 hd with h1 | h1
  · exact h d h1
  · rcases hu with h2 | h2
    · rw [List.getElem?_eq_getElem hiu] at h2
      injection h2 with h2
      rw [h2] at h1; simp at h1
    · split at h1
      · simp at h1
      · simp at h1; subst h1; exact h2
theorem FreeP.no {l : List Cmd} {us : List Bool} (hl : us.length = l.length) {i : Nat} (hi : i < l.length) {x : Cmd} (hu : us[i]? = some false) (hm : mustC l[i] x = true) : ¬ FreeP l us x := by
  intro h
  have := h l[i] (by
    rw [unused_same hl hi hu]
    simp)
  rw [hm] at this; cases this

set_option maxHeartbeats 1000000 in
theorem specFree_any (A : Option Addr) (n c : Nat) (l : List Cmd) (B : Option Addr) (cb : Nat) (us : List Bool) (k : Nat) (x : Cmd) (w : World) (hn : n ≤ 140737488355328) (hl : l.length = n) (hu : us.length = n) (ha : At encK 5 w A l) (hb : At encB 1 w B us) (hz : ∀ q ∈ l, q.p.size ≤ 1048576) (hk : k < n) (hx : l[k]? = some x) :
    Calls Tryd.prog 55 #[.slice A n c, .slice B n cb, .int .i64 k] w (Tells (us[k]? = some false ∧ FreeP l us x) w) := by
  obtain ⟨i0, hi, hz0, hz1, hz2⟩ := info_parts infoK
  obtain ⟨j0, hj, hj0, hj1, hj2⟩ := info_parts infoB
  have HL := Lib.hid hl
  have HU := Lib.hid hu
  have HX := Lib.hid hx
  have hxz : x.p.size ≤ 1048576 := hz x (List.mem_of_getElem? hx)
  have hlk0 : k < l.length := by omega
  have HXE := Lib.hid (show l[k] = x from by rw [List.getElem?_eq_getElem hlk0] at hx; injection hx)
  clear hl hu hx
  go_enter Tryd.func55, Tryd.ntmps55
  go_wp2_with fail
  go_loopw [7] (fun i wr => ∃ j : Nat, i = .int .i64 j ∧ j ≤ n ∧ Hid (FreeP (l.take j) (us.take j) x) ∧ Below w.heap.size w wr) (fun i _ => n - (intOf i).toNat)
  case atStart => exact ⟨0, rfl, Nat.zero_le _, Lib.hid (fun d hd => by simp [unused] at hd), Below.refl _ _⟩
  case round =>
    obtain ⟨i, rfl, hin, HN, hbw⟩ := hrel
    by_cases hlt : i < n
    · have hli : i < l.length := by rw [HL.out]; exact hlt
      have hui : i < us.length := by rw [HU.out]; exact hlt
      have hlk : k < l.length := by rw [HL.out]; exact hk
      have hidx := fun W => run_index_any (c := c) Tryd.underlying24 hi hz1 (ha.addr (by omega)) hlt W
      have hidxk := fun W => run_index_any (c := c) Tryd.underlying24 hi hz1 (ha.addr (by omega)) hk W
      have hidu := fun W => run_index_one (c := cb) Tryd.underlying59 hj hj1 (hb.addr (by omega)) hlt W
      obtain ⟨p, hp⟩ : ∃ p, l[i] = p := ⟨_, rfl⟩
      have hpz : p.p.size ≤ 1048576 := hz p (hp ▸ List.getElem_mem _)
      obtain ⟨b, hb'⟩ : ∃ b, us[i] = b := ⟨_, rfl⟩
      have u0 := (hb.belowS hbw).cell1 hui (u := .bool b) (by rw [hb']; rfl)
      have u0' : wr.drew.cell? ⟨blk B, off B + i, none⟩ = some (.bool b) := u0
      have HB := Lib.hid (show us[i]? = some b by rw [List.getElem?_eq_getElem hui, hb'])
      have HP := Lib.hid hp
      clear hb'
      cases b with
      | true =>
        clear hp
        go_wp2_with fail
        first | (go_quiet (fail)) | fail
        all_goals
          go_wp2_with fail
          go_roundw
          case rel => exact ⟨i + 1, by go_num, by omega, Lib.hid (HN.out.yes (by rw [HL.out, HU.out]) hli (.inl HB.out)), below_drawn hbw _⟩
          case measure => simp [intOf]; omega
      | false =>
        obtain ⟨c0, c1, c2, c3, c4⟩ := at5 (ha.belowS hbw) hli hp
        obtain ⟨d0, d1, d2, d3, d4⟩ := at5 (ha.belowS hbw) hlk HXE.out
        obtain ⟨oA, hoA⟩ : ∃ o, off A + i * 5 = o := ⟨_, rfl⟩
        obtain ⟨oB, hoB⟩ : ∃ o, off A + k * 5 = o := ⟨_, rfl⟩
        obtain ⟨r, hr⟩ : ∃ r, mustR p.p.data.toList x.p.data.toList p.z x.x = r := ⟨_, rfl⟩
        have HR := Lib.hid hr
        rw [hoA] at hidx c0 c1 c2 c3 c4
        rw [hoB] at hidxk d0 d1 d2 d3 d4
        clear hoA hoB hr hp
        go_wp2_with fail
        first | (go_region_held3 (fun w' => w'.cell? ⟨blk A, oA, none⟩ = some (.string p.p) ∧ w'.cell? ⟨blk A, oA + 1, none⟩ = some (.int .i64 p.x) ∧ w'.cell? ⟨blk A, oA + 2, none⟩ = some (.int .i64 p.y) ∧ w'.cell? ⟨blk A, oA + 3, none⟩ = some (.int .i64 p.z) ∧ w'.cell? ⟨blk A, oA + 4, none⟩ = some (.int .i64 p.u) ∧ w'.cell? ⟨blk A, oB, none⟩ = some (.string x.p) ∧ w'.cell? ⟨blk A, oB + 1, none⟩ = some (.int .i64 x.x) ∧ w'.cell? ⟨blk A, oB + 2, none⟩ = some (.int .i64 x.y) ∧ w'.cell? ⟨blk A, oB + 3, none⟩ = some (.int .i64 x.z) ∧ w'.cell? ⟨blk A, oB + 4, none⟩ = some (.int .i64 x.u) ∧ w'.cell? ⟨blk B, off B + i, none⟩ = some (.bool false) ∧ Below w.heap.size w w')
          ((refine ⟨?_, ?_, ?_, ?_, ?_, ?_, ?_, ?_, ?_, ?_, ?_, ?_⟩ <;> repeat (first | assumption | exact hbw.drew | refine cell_later (by assumption) ?_ | refine below_step2 (by assumption) ?_)))
          (first | (go_at_call 75; refine (specMust_any p.p p.x p.y p.z p.u x.p x.x x.y x.z x.u _ hpz hxz).mono ?_; rw [HR.out]; rintro e w2 ⟨rfl, hb2⟩))) | fail
        have bw2 := below_step hbw.drew hb2
        cases r with
        | true =>
          go_wp2_with fail
          go_ret
          exact Tells.no (fun h => FreeP.no (by rw [HL.out, HU.out]) hli HB.out (by rw [HP.out]; exact HR.out) h.2) bw2
        | false =>
          go_wp2_with fail
          go_roundw
          case rel => exact ⟨i + 1, by go_num, by omega, Lib.hid (HN.out.yes (by rw [HL.out, HU.out]) hli (.inr (by rw [HP.out]; exact HR.out))), bw2⟩
          case measure => simp [intOf]; omega
    · obtain rfl : n = i := by omega
      have hfree := HN.out
      rw [List.take_of_length_le (by rw [HL.out]; exact Nat.le_refl _), List.take_of_length_le (by rw [HU.out]; exact Nat.le_refl _)] at hfree
      have HF := Lib.hid hfree
      have huk : k < us.length := by rw [HU.out]; exact hk
      have hidu := fun W => run_index_one (c := cb) Tryd.underlying59 hj hj1 (hb.addr (by omega)) hk W
      obtain ⟨b, hb'⟩ : ∃ b, us[k] = b := ⟨_, rfl⟩
      have u0 := (hb.belowS hbw).cell1 huk (u := .bool b) (by rw [hb']; rfl)
      have HB := Lib.hid (show us[k]? = some b by rw [List.getElem?_eq_getElem huk, hb'])
      clear hfree hb'
      cases b
      all_goals
        go_wp2_with fail
        go_ret
        first
          | exact Tells.no (fun h => by have := h.1; rw [HB.out] at this; cases this) hbw
          | exact Tells.yes ⟨HB.out, HF.out⟩ hbw
end Go.Proofs.YtmhmfdikncgdgaaDoor
