/- How many orders are possible, by the program's text: the count. -/
import Derived.Test.YtmhmfdikncgdgaaDoorCountS
import Derived.Test.YtmhmfdikncgdgaaDoorSwap
import Derived.Test.YtmhmfdikncgdgaaDoorSub
import Derived.Deep.RegionLaw
import Derived.Deep.DeepCutAuto
namespace Go.Proofs.YtmhmfdikncgdgaaDoor
open Go.RowKit
set_option linter.unusedVariables false
set_option linter.unusedSimpArgs false
set_option maxRecDepth 20000

def ordF (m : Nat) (hd : List Cmd) (c : Cmd) (r : List Cmd) : Nat := if goesB hd c then ordN m (hd ++ [c]) r else 0
theorem poss_snoc {hd : List Cmd} {c : Cmd} (h : PossP hd hd.length) : PossP (hd ++ [c]) (hd.length + 1) ↔ goesB hd c = true := by
  unfold goesB
  rw [List.all_eq_true]
  constructor
  · intro hp x hx
    obtain ⟨j, hj, rfl⟩ := List.getElem_of_mem hx
    have := hp hd.length (by omega) j hj c hd[j] (by simp) (by rw [List.getElem?_append_left hj]; exact List.getElem?_eq_getElem hj)
    unfold mustC
    rw [this]; rfl
  · intro hg i hi j hj p q hp hq
    by_cases hil : i < hd.length
    · rw [List.getElem?_append_left hil] at hp
      rw [List.getElem?_append_left (by omega)] at hq
      exact h i hil j hj p q hp hq
    · have hie : i = hd.length := by omega
      subst hie
      simp at hp
      subst hp
      rw [List.getElem?_append_left hj] at hq
      have := hg q (List.mem_of_getElem? hq)
      unfold mustC at this
      simpa using this
def OrdI (m : Nat) (hd rs : List Cmd) (k acc : Nat) : Prop := acc + sumE (ordF m hd) (rs.take k) (rs.drop k) = ordN (m + 1) hd rs
theorem OrdI.zero (m : Nat) (hd rs : List Cmd) : OrdI m hd rs 0 0 := by
  unfold OrdI
  rw [List.take_zero, List.drop_zero, Nat.zero_add]
  rfl
theorem OrdI.step {m : Nat} {hd rs : List Cmd} {k acc : Nat} (h : OrdI m hd rs k acc) (hk : k < rs.length) : OrdI m hd rs (k + 1) (acc + ordF m hd rs[k] (rs.take k ++ rs.drop (k + 1))) := by
  unfold OrdI at h ⊢
  rw [List.drop_eq_getElem_cons hk, sumE] at h
  rw [List.take_succ_eq_append_getElem hk, ← h]
  omega
theorem OrdI.done {m : Nat} {hd rs : List Cmd} {acc : Nat} (h : OrdI m hd rs rs.length acc) : acc = ordN (m + 1) hd rs := by
  unfold OrdI at h
  rw [List.drop_length, sumE] at h
  omega
theorem OrdI.le {m : Nat} {hd rs : List Cmd} {k acc : Nat} (h : OrdI m hd rs k acc) (hl : rs.length = m + 1) (hm : m < 6) : acc ≤ 46656 := by
  unfold OrdI at h
  have := ord_le (head := hd) hl (by omega)
  omega

theorem cloneOut_any (A : Option Addr) (n c : Nat) (l : List Cmd) (w : World) (hn : n ≤ 1100000) (hl : l.length = n) (ha : At encK 5 w A l) :
    Calls Tryd.prog 32 #[.slice A n c] w fun e w' => ∃ A' c', e = .returned (.slice A' n c') ∧ w'.ownsRow w.heap.size 44 5 (.slice A' n c') n (l.flatMap encK) ∧ n ≤ c' ∧ Below w.heap.size w w' :=
  (cloneLog_any A n c l w hn hl ha).mono fun e w' ⟨⟨v, he, ho⟩, hb⟩ => by
    obtain ⟨A', c', rfl, h1, _, _⟩ := own_form ho
    exact ⟨A', c', he, ho, h1, hb⟩

set_option maxHeartbeats 1000000 in
theorem implOrders_any : ∀ (m : Nat) (A : Option Addr) (nA cA : Nat) (hd : List Cmd) (B : Option Addr) (n c : Nat) (rs : List Cmd) (w : World), nA + n ≤ 100 → hd.length = nA → rs.length = n → n ≤ c → c ≤ maxLen → At encK 5 w A hd → At encK 5 w B rs → (∀ q ∈ hd, okCmd q = true) → (∀ q ∈ rs, okCmd q = true) → m ≤ 6 → n = m → PossP hd hd.length →
    Calls Tryd.prog 42 #[.slice A nA cA, .slice B n c] w fun e w' => e = .returned (.int .i64 (ordN m hd rs : Nat)) ∧ Below w.heap.size w w' := by
  intro m
  induction m with
  | zero =>
    intro A nA cA hd B n c rs w hn hl hr hc hcm ha hb hok hok2 hm hnm hp
    subst hnm
    clear hl hr
    go_enter Tryd.func42, Tryd.ntmps42
    go_wp2_with fail
    go_ret
    exact ⟨rfl, Below.refl _ _⟩
  | succ m ih =>
    intro A nA cA hd B n c rs w hn hl hr hc hcm ha hb hok hok2 hm hnm hp
    obtain ⟨i0, hi, hz0, hz1, hz2⟩ := info_parts infoK
    have HL := Lib.hid hl
    have HR := Lib.hid hr
    have HP := Lib.hid hp
    have IH := Lib.hid ih
    have hm5 : m < 6 := by omega
    have HNM := Lib.hid hnm
    have hn0 : ((n : Int) == 0) = false := by simp; omega
    have hn1 : 0 < n := by omega
    clear hl hr hp ih hnm
    go_enter Tryd.func42, Tryd.ntmps42
    go_wp2_with fail
    clear hn0
    go_loopw [5, 14] (fun v i wr => ∃ k acc : Nat, i = .int .i64 k ∧ v = .int .i64 acc ∧ k ≤ n ∧ acc ≤ 46656 ∧ Hid (OrdI m hd rs k acc) ∧ Below w.heap.size w wr) (fun _ i _ => n - (intOf i).toNat)
    case atStart => exact ⟨0, 0, rfl, rfl, Nat.zero_le _, by omega, Lib.hid (OrdI.zero m hd rs), Below.refl _ _⟩
    case round =>
      obtain ⟨k, acc, rfl, rfl, hk, hacc, HI, hbw⟩ := hrel
      by_cases hlt : k < n
      · have hlk : k < rs.length := by rw [HR.out]; exact hlt
        have hidx := fun W => run_index_any (c := c) Tryd.underlying24 hi hz1 (hb.addr (by omega)) hlt W
        obtain ⟨x, hx⟩ : ∃ x, rs[k] = x := ⟨_, rfl⟩
        have HXE := Lib.hid hx
        have hxok : okCmd x = true := hok2 x (hx ▸ List.getElem_mem _)
        obtain ⟨c0, c1, c2, c3, c4⟩ := at5 (hb.belowS hbw) hlk hx
        have P0 := Blk.new wr 44 #[.string x.p, .int .i64 x.x, .int .i64 x.y, .int .i64 x.z, .int .i64 x.u]
        have bw0 := below_alloc hbw (.cells #[.string x.p, .int .i64 x.x, .int .i64 x.y, .int .i64 x.z, .int .i64 x.u] 44)
        obtain ⟨g, hg⟩ : ∃ g, wr.heap.size = g := ⟨_, rfl⟩
        have hgw : w.heap.size ≤ g := by have := hbw.size; omega
        obtain ⟨W0, hW0⟩ : ∃ W0, W0 = wr.alloc (.cells #[.string x.p, .int .i64 x.x, .int .i64 x.y, .int .i64 x.z, .int .i64 x.u] 44) := ⟨_, rfl⟩
        rw [hg, ← hW0] at P0
        rw [← hW0] at bw0
        have HXOK := Lib.hid hxok
        clear hx hxok
        go_upto_region 7 with fail
        try rw [hg]
        rw [← hW0]
        clear hg hW0 c0 c1 c2 c3 c4 hidx
        obtain ⟨c0, c1, c2, c3, c4⟩ := blk5 P0
        have bw1 : Below w.heap.size w W0.drew := bw0.drew
        have hs0 : w.heap.size ≤ W0.heap.size := bw1.size
        have d0 : W0.drew.cell? ⟨g, 0, none⟩ = some (.string x.p) := c0
        have d1 : W0.drew.cell? ⟨g, 1, none⟩ = some (.int .i64 x.x) := c1
        have d2 : W0.drew.cell? ⟨g, 2, none⟩ = some (.int .i64 x.y) := c2
        have d3 : W0.drew.cell? ⟨g, 3, none⟩ = some (.int .i64 x.z) := c3
        have d4 : W0.drew.cell? ⟨g, 4, none⟩ = some (.int .i64 x.u) := c4
        have haA := ha.belowS bw1
        have haA2 := fun o => (ha.belowS (below_alloc bw1 o))
        go_cut [8] (fun v wx => ∃ A1 c1, v = .slice A1 (nA + 1) c1 ∧ nA + 1 ≤ c1 ∧ wx.ownsRow w.heap.size 44 5 (.slice A1 (nA + 1) c1) (nA + 1) ((hd ++ [x]).flatMap encK) ∧ Below w.heap.size w wx)
        case first =>
          go_region_law (first
            | (refine step_append_at _ (by exact rfl) _ _ 24 (by exact rfl) w.heap.size 44 i0 (.agg #[.string ByteArray.empty, .int .i64 0, .int .i64 0, .int .i64 0, .int .i64 0]) 5 48 Tryd.underlying24 hi hz0 hz1 hz2 rfl (by decide) (.slice A2 nA c2) nA (hd.flatMap encK) (by exact rfl) (by first | exact own_mono (ho2.alloc _) (Nat.le_trans hs0 (by first | exact Nat.le_refl _ | (show W0.heap.size ≤ (W0.alloc _).heap.size; rw [World.size_alloc]; exact Nat.le_succ _))) | exact own_mono ho2 (Nat.le_trans hs0 (by first | exact Nat.le_refl _ | (show W0.heap.size ≤ (W0.alloc _).heap.size; rw [World.size_alloc]; exact Nat.le_succ _)))) encK_len encK_one _ 1 1 [x] (by exact rfl) rfl (by first | exact at_new _ encK_len [x] _ _ rfl (by unfold maxLen; simp) | exact ((at_new W0 encK_len [x] _ _ rfl (by unfold maxLen; simp)).drewN 1).belowS hb2) (by unfold maxLen; omega) (by omega) (by have h2 := hb2.size; (try simp at h2 ⊢); omega) ?_; intro v' w' ho' hg' hv')
            | (go_simp; go_at_call 32; refine (cloneOut_any A nA cA hd _ (by omega) HL.out (by first | exact haA | exact haA2 _)).mono ?_; rintro e w2 ⟨A2, c2, rfl, ho2, hc2, hb2⟩; (try have e0 := cell_later hb2 d0); (try have e1 := cell_later hb2 d1); (try have e2 := cell_later hb2 d2); (try have e3 := cell_later hb2 d3); (try have e4 := cell_later hb2 d4)))
          all_goals
            try go_wp2_with fail
            have hbf := below_app (w := w) (by first | exact below_alloc (below_step bw1 hb2) _ | exact below_step (below_alloc bw0 _).drew hb2) hg' (own_ge (own_mono ho2 (Nat.le_trans hs0 (by first | exact Nat.le_refl _ | (show W0.heap.size ≤ (W0.alloc _).heap.size; rw [World.size_alloc]; exact Nat.le_succ _)))))
            obtain ⟨A1, c1, rfl, h1, h2, _⟩ := own_form ho'
            go_meet
            exact ⟨A1, c1, rfl, h1, by rw [List.flatMap_append]; exact ho', hbf⟩
        case rest =>
          clear d0 d1 d2 d3 d4 haA haA2 hs0 bw1 bw0 P0 hgw c0 c1 c2 c3 c4
          obtain ⟨A1, c1, rfl, hc1, ho1, bw2⟩ := hcut
          have at1 := own_at encK_len ho1 (by rw [List.length_append, HL.out]; rfl)
          have hbB := hb.belowS bw2
          clear ho1
          have HXOK2 := HXOK
          go_wp2_with fail
          refine (implPoss_any A1 (nA + 1) c1 (hd ++ [x]) _ (by omega) (by rw [List.length_append, HL.out]; rfl) hc1 at1 (fun q hq => by
            rcases List.mem_append.1 hq with h | h
            · exact hok q h
            · rw [List.mem_singleton.1 h]; exact HXOK.out)).mono ?_
          rintro e w4 ⟨b, rfl, hbb, hb4⟩
          have bw4 := below_step bw2 hb4
          have HBB := Lib.hid (show b = true ↔ goesB hd x = true from hbb.trans (by have := poss_snoc (c := x) HP.out; rwa [HL.out] at this))
          have HN0 := Lib.hid (HI.out.step hlk)
          clear hbb
          cases b with
          | false =>
            have HG := Lib.hid (show ordF m hd rs[k] (rs.take k ++ rs.drop (k + 1)) = 0 from if_neg fun h => by rw [HXE.out] at h; have := HBB.out.2 h; cases this)
            have HN := Lib.hid (show OrdI m hd rs (k + 1) acc by have := HN0.out; rwa [HG.out] at this)
            go_wp2_with fail
            go_roundw
            case rel => exact ⟨k + 1, acc, by go_num, rfl, by omega, hacc, HN, bw4⟩
            case measure => simp [intOf]; omega
          | true =>
            have hgo := HBB.out.1 (by first | rfl | trivial)
            obtain ⟨V, hV⟩ : ∃ V, ordN m (hd ++ [x]) (rs.take k ++ rs.drop (k + 1)) = V := ⟨_, rfl⟩
            have HV := Lib.hid hV
            have HG := Lib.hid (show ordF m hd rs[k] (rs.take k ++ rs.drop (k + 1)) = V by rw [HXE.out]; unfold ordF; rw [if_pos hgo, hV])
            have HN := Lib.hid (show OrdI m hd rs (k + 1) (acc + V) by have := HN0.out; rwa [HG.out] at this)
            have hacc2 := HN.out.le (by rw [HR.out]; exact HNM.out) hm5
            have HPO := Lib.hid (show PossP (hd ++ [x]) (hd ++ [x]).length by rw [List.length_append]; exact (poss_snoc HP.out).2 hgo)
            have hwadd : IntKind.i64.wrap ((acc : Int) + (V : Int)) = ((acc + V : Nat) : Int) := by rw [IntWalk.i64_in _ (by omega)]; omega
            have hwk : IntKind.i64.wrap ((k : Int) + 1) = (k : Int) + 1 := IntWalk.i64_in _ (by omega)
            have hcast : ((k + 1 : Nat) : Int) = (k : Int) + 1 := by omega
            have hsl1 : ∀ W, (Instr.slice 24 (.slice B n c) none (some (.int .i64 (k : Int))) none).run Tryd.prog W = .ok (.slice B k c) W := fun W => run_slice_upto Tryd.underlying24 hi hz1 B n c W k (by omega)
            have hsl2 : ∀ W, (Instr.slice 24 (.slice B n c) (some (.int .i64 ((k : Int) + 1))) none none).run Tryd.prog W = .ok (.slice (sub B c (k + 1) 5) (n - (k + 1)) (c - (k + 1))) W := fun W => by
              have := run_slice_from Tryd.underlying24 hi hz1 B n c W (k + 1) (by omega)
              rwa [hcast] at this
            have hbD : At encK 5 w4.drew B rs := hbB.belowS hb4.drew
            have hat1 : At encK 5 w4.drew A1 (hd ++ [x]) := at1.belowS hb4.drew
            have htk := hbD.take (c := c) (m := k) (by rw [HR.out]; exact hc) (by rw [HR.out]; omega)
            have hdr := hbD.sub (c := c) (lo := k + 1) (m := n - (k + 1)) (by rw [HR.out]; exact hc) (by rw [HR.out]; omega)
            rw [List.take_of_length_le (by rw [List.length_drop, HR.out]; exact Nat.le_refl _)] at hdr
            have HTL := Lib.hid (show (rs.take k).length = k by rw [List.length_take, HR.out]; omega)
            have HDL := Lib.hid (show (rs.drop (k + 1)).length = n - (k + 1) by rw [List.length_drop, HR.out])
            have HNK := Lib.hid (show k + (n - (k + 1)) = m by have := HNM.out; omega)
            have hnk : nA + 1 + (k + (n - (k + 1))) ≤ 100 := by omega
            clear hV hgo hcast hbB
            go_upto_region 9 with fail
            go_region_law (first
              | (refine step_append_at _ (by exact rfl) _ _ 24 (by exact rfl) w4.drew.heap.size 44 i0 (.agg #[.string ByteArray.empty, .int .i64 0, .int .i64 0, .int .i64 0, .int .i64 0]) 5 48 Tryd.underlying24 hi hz0 hz1 hz2 rfl (by decide) (.slice A5 k c5) k ((rs.take k).flatMap encK) (by exact rfl) ho5 encK_len encK_one (sub B c (k + 1) 5) (n - (k + 1)) (c - (k + 1)) (rs.drop (k + 1)) (by exact rfl) HDL.out (hdr.belowS hb5) (by unfold maxLen; omega) (by omega) hb5.size ?_; intro v6 w6 ho6 hg6 hv6; (have hb6 := below_app (w := w4.drew) hb5 hg6 (own_ge ho5)); obtain ⟨A6, c6, rfl, h61, h62, hq6⟩ := own_form ho6; clear hq6 hv6 hg6)
              | (go_simp; go_at_call 32; refine (cloneOut_any B k c (rs.take k) _ (by omega) HTL.out htk).mono ?_; rintro e w5 ⟨A5, c5, rfl, ho5, hc5, hb5⟩)
              | (go_simp; go_at_call 42; refine (IH.out A1 (nA + 1) c1 (hd ++ [x]) A6 (k + (n - (k + 1))) c6 (rs.take k ++ rs.drop (k + 1)) _ hnk (by rw [List.length_append, HL.out]; rfl) (by rw [List.length_append, HTL.out, HDL.out]) h61 h62 (hat1.belowS hb6) (own_at encK_len (by rw [List.flatMap_append]; exact ho6) (by rw [List.length_append, HTL.out, HDL.out])) (fun q hq => by
                    rcases List.mem_append.1 hq with h | h
                    · exact hok q h
                    · rw [List.mem_singleton.1 h]; exact HXOK2.out) (fun q hq => by
                    rcases List.mem_append.1 hq with h | h
                    · exact hok2 q (List.mem_of_mem_take h)
                    · exact hok2 q (List.mem_of_mem_drop h)) (by omega) HNK.out HPO.out).mono ?_; rw [HV.out]; rintro e w7 ⟨rfl, hb7⟩))
            all_goals
              try go_wp2_with fail
              have bw7 := below_step (below_step bw4.drew hb6) hb7
              go_roundw
              case rel => exact ⟨k + 1, acc + V, by go_num, by first | rfl | (congr 1), by omega, hacc2, HN, bw7⟩
              case measure => simp [intOf]; omega
      · obtain rfl : n = k := by omega
        have HD := Lib.hid (OrdI.done (by rw [HR.out]; exact HI.out))
        go_wp2_with fail
        go_ret
        exact ⟨ret_int (by rw [HD.out]), hbw⟩
end Go.Proofs.YtmhmfdikncgdgaaDoor
