/- How many orders are possible, by the reference's text: the count. -/
import Derived.Test.YtmhmfdikncgdgaaDoorCount
namespace Go.Proofs.YtmhmfdikncgdgaaDoor
open Go.RowKit
set_option linter.unusedVariables false
set_option linter.unusedSimpArgs false
set_option maxRecDepth 20000

def cntF (m : Nat) (c : Cmd) (r : List Cmd) : Nat := if freeR c r then cntR m r else 0
theorem free_iff {l : List Cmd} {us : List Bool} (hl : us.length = l.length) {k : Nat} (hk : k < l.length) (hu : us[k]? = some false) :
    FreeP l us l[k] ↔ freeR l[k] (unused (l.take k) (us.take k) ++ unused (l.drop (k + 1)) (us.drop (k + 1))) = true := by
  unfold FreeP freeR
  rw [unused_same hl hk hu, List.all_eq_true]
  simp only [Bool.false_eq_true, if_false, List.mem_append, List.mem_singleton, Bool.not_eq_true']
  constructor
  · intro h d hd
    rcases hd with h1 | h1
    · exact h d (.inl (.inl h1))
    · exact h d (.inr h1)
  · intro h d hd
    rcases hd with (h1 | h1) | h1
    · exact h d (.inl h1)
    · subst h1; exact mustC_irr _
    · exact h d (.inr h1)
/-- What has been counted and what is to come are the whole. -/
def CountI (m : Nat) (l : List Cmd) (us : List Bool) (k acc : Nat) : Prop :=
  acc + sumU (cntF m) (unused (l.take k) (us.take k)) (l.drop k) (us.drop k) = cntR (m + 1) (unused l us)
theorem CountI.zero (m : Nat) (l : List Cmd) (us : List Bool) : CountI m l us 0 0 := by
  unfold CountI
  rw [sumU_eq]
  simp [unused, cntR, cntF]
  rfl
theorem CountI.skip {m : Nat} {l : List Cmd} {us : List Bool} {k acc : Nat} (h : CountI m l us k acc) (hl : us.length = l.length) (hk : k < l.length) (hn : ¬ (us[k]? = some false ∧ FreeP l us l[k])) : CountI m l us (k + 1) acc := by
  unfold CountI at h ⊢
  have hku : k < us.length := by omega
  have hv := List.getElem?_eq_getElem hku
  rw [sumU_step _ hl hk hv] at h
  rw [unused_take hl hk hv, ← h]
  cases hb : us[k] with
  | true => simp
  | false =>
    have hf : cntF m l[k] (unused (l.take k) (us.take k) ++ unused (l.drop (k + 1)) (us.drop (k + 1))) = 0 := by
      unfold cntF
      rw [if_neg]
      intro hc
      exact hn ⟨by rw [hv, hb], (free_iff hl hk (by rw [hv, hb])).2 hc⟩
    simp [hf]
theorem CountI.take {m : Nat} {l : List Cmd} {us : List Bool} {k acc : Nat} (h : CountI m l us k acc) (hl : us.length = l.length) (hk : k < l.length) (hu : us[k]? = some false) (hf : FreeP l us l[k]) :
    CountI m l us (k + 1) (acc + cntR m (unused l (us.set k true))) := by
  unfold CountI at h ⊢
  have hku : k < us.length := by omega
  have hv := List.getElem?_eq_getElem hku
  have hb : us[k] = false := by rw [hv] at hu; injection hu
  rw [sumU_step _ hl hk hv, hb] at h
  rw [unused_take hl hk hv, hb, ← h, unused_split hl hk]
  have := (free_iff hl hk hu).1 hf
  simp only [cntF, this, if_pos, Bool.false_eq_true, if_false, if_true, List.append_nil]
  omega
theorem CountI.done {m : Nat} {l : List Cmd} {us : List Bool} {acc : Nat} (h : CountI m l us l.length acc) (hl : us.length = l.length) : acc = cntR (m + 1) (unused l us) := by
  unfold CountI at h
  rw [List.drop_length, sumU_eq] at h
  simpa [unused, sumE] using h
theorem CountI.le {m : Nat} {l : List Cmd} {us : List Bool} {k acc : Nat} (h : CountI m l us k acc) (hl : (unused l us).length = m + 1) (hm : m < 6) : acc ≤ 46656 := by
  unfold CountI at h
  have := cnt_le' hl (by omega)
  omega
theorem unused_set_len {l : List Cmd} {us : List Bool} {k m : Nat} (hl : us.length = l.length) (hk : k < l.length) (hu : us[k]? = some false) (h : (unused l us).length = m + 1) : (unused l (us.set k true)).length = m := by
  rw [unused_same hl hk hu] at h
  rw [unused_split hl hk]
  simp at h ⊢
  omega
theorem own_set1 {w : World} {base g n c : Nat} {e : TypeId} {us : List Bool} {k : Nat} (h : w.ownsRow base e 1 (.slice (some ⟨g, 0, none⟩) n c) n (us.flatMap encB)) (hl : us.length = n) :
    (w.setCell ⟨g, k, none⟩ (.bool true)).ownsRow base e 1 (.slice (some ⟨g, 0, none⟩) n c) n ((us.set k true).flatMap encB) := by
  have := (h.stored k (.bool true)).1
  have e2 : ∀ (us : List Bool) (k : Nat), (us.flatMap encB).set k (.bool true) = (us.set k true).flatMap encB := by
    intro us
    induction us with
    | nil => intro k; rfl
    | cons u us ih =>
      intro k
      cases k with
      | zero => rfl
      | succ k => rw [List.flatMap_cons, List.set_cons_succ, List.flatMap_cons, ← ih k]; rfl
  rwa [e2] at this

set_option maxHeartbeats 4000000 in
theorem specCount_any : ∀ (m : Nat) (A : Option Addr) (n c : Nat) (l : List Cmd) (B : Option Addr) (cb : Nat) (us : List Bool) (w : World), n ≤ 1100000 → l.length = n → us.length = n → At encK 5 w A l → At encB 1 w B us → (∀ q ∈ l, q.p.size ≤ 1048576) → m ≤ 6 → (unused l us).length = m →
    Calls Tryd.prog 40 #[.slice A n c, .slice B n cb, .int .i64 m] w fun e w' => e = .returned (.int .i64 (cntR m (unused l us) : Nat)) ∧ Below w.heap.size w w' := by
  intro m
  induction m with
  | zero =>
    intro A n c l B cb us w hn hl hu ha hb hz hm hlen
    clear hl hu hlen
    go_enter Tryd.func40, Tryd.ntmps40
    go_wp2_with fail
    go_ret
    exact ⟨rfl, Below.refl _ _⟩
  | succ m ih =>
    intro A n c l B cb us w hn hl hu ha hb hz hm hlen
    obtain ⟨j0, hj, hj0, hj1, hj2⟩ := info_parts infoB
    have HL := Lib.hid hl
    have HU := Lib.hid hu
    have HLEN := Lib.hid hlen
    have IH := Lib.hid ih
    have hm5 : m < 6 := by omega
    have hm0 : decide (((m + 1 : Nat) : Int) = 0) = false := decide_eq_false (by omega)
    have hm1 : ((((m + 1 : Nat) : Int)) == 0) = false := by simp; omega
    have hmw : IntKind.i64.wrap (((m + 1 : Nat) : Int) - 1) = ((m : Nat) : Int) := by rw [IntWalk.i64_in _ (by omega)]; omega
    clear hl hu hlen ih
    obtain ⟨M, hM⟩ : ∃ M : Int, ((m + 1 : Nat) : Int) = M := ⟨_, rfl⟩
    rw [hM] at hm0 hm1 hmw ⊢
    have HM := Lib.hid hM
    clear hM
    go_enter Tryd.func40, Tryd.ntmps40
    go_wp2_with fail
    clear hm0 hm1
    go_loopw [7, 8] (fun v i wr => ∃ k acc : Nat, i = .int .i64 k ∧ v = .int .i64 acc ∧ k ≤ n ∧ acc ≤ 46656 ∧ Hid (CountI m l us k acc) ∧ Below w.heap.size w wr) (fun _ i _ => n - (intOf i).toNat)
    case atStart => exact ⟨0, 0, rfl, rfl, Nat.zero_le _, by omega, Lib.hid (CountI.zero m l us), Below.refl _ _⟩
    case round =>
      obtain ⟨k, acc, rfl, rfl, hk, hacc, HI, hbw⟩ := hrel
      by_cases hlt : k < n
      · have hlk : k < l.length := by rw [HL.out]; exact hlt
        obtain ⟨x, hx⟩ : ∃ x, l[k] = x := ⟨_, rfl⟩
        have HXE := Lib.hid hx
        have HX := Lib.hid (show l[k]? = some x by rw [List.getElem?_eq_getElem hlk, hx])
        clear hx
        go_wp2_with fail
        refine (specFree_any A n c l B cb us k x _ (by omega) HL.out HU.out (ha.belowS hbw) (hb.belowS hbw) hz hlt HX.out).mono ?_
        rintro e w1 ⟨b, rfl, hbi, hb1⟩
        have HBI := Lib.hid hbi
        have bw1 := below_step hbw hb1
        clear hbi
        cases b with
        | false =>
          have HN := Lib.hid (HI.out.skip (by rw [HL.out, HU.out]) hlk (fun h => by rw [HXE.out] at h; have := HBI.out.2 h; cases this))
          go_wp2_with fail
          go_roundw
          case rel => exact ⟨k + 1, acc, by go_num, rfl, by omega, hacc, HN, bw1⟩
          case measure => simp [intOf]; omega
        | true =>
          have HT := Lib.hid (HBI.out.1 (by first | rfl | trivial))
          have HN := Lib.hid (HI.out.take (by rw [HL.out, HU.out]) hlk HT.out.1 (by rw [HXE.out]; exact HT.out.2))
          have hacc2 := HN.out.le HLEN.out hm5
          have HLS := Lib.hid (unused_set_len (by rw [HL.out, HU.out]) hlk HT.out.1 HLEN.out)
          have HUS := Lib.hid (show (us.set k true).length = n by rw [List.length_set, HU.out])
          obtain ⟨V, hV⟩ : ∃ V, cntR m (unused l (us.set k true)) = V := ⟨_, rfl⟩
          have HV := Lib.hid hV
          rw [hV] at hacc2 HN
          have hwadd : IntKind.i64.wrap ((acc : Int) + (V : Int)) = ((acc + V : Nat) : Int) := by rw [IntWalk.i64_in _ (by omega)]; omega
          have ho0 := own_mono (World.ownsRow_lit (base := w1.heap.size) (e := 4) (size := 1) w1 #[] 0 (Nat.le_refl _) (by decide) rfl) bw1.size
          have hb2 := (hb.belowS bw1).belowS ((Below.refl w1.heap.size w1).alloc (Nat.le_refl _) (.cells #[] 4))
          have hsz : w.heap.size ≤ (w1.alloc (.cells #[] 4)).heap.size := by have := bw1.size; rw [World.size_alloc]; omega
          clear hV
          go_upto_region 9 with (at_builtin; refine wpList_append_at _ rfl _ _ 59 rfl w.heap.size 4 j0 (.bool false) 1 1 Tryd.underlying59 hj hj0 hj1 hj2 rfl (by decide) (.slice (some ⟨w1.heap.size, 0, none⟩) 0 0) 0 [] rfl ho0 encB_len encB_one B n cb us rfl HU.out hb2 (by unfold maxLen; omega) (by omega) (by omega) ?_; intro v3 w3 ho3 hg3 hv3)
          have ho4 : w3.ownsRow w.heap.size 4 1 v3 n (us.flatMap encB) := by simpa using ho3
          have bw3 := below_app (below_alloc bw1 _) hg3 (own_ge ho0)
          obtain ⟨A3, c3, rfl, h3c, h3m, hA3⟩ := own_form ho4
          have hA4 := (hA3 (by omega)).1
          have hge := (hA3 (by omega)).2.1
          obtain ⟨g, hg⟩ : ∃ g, blk A3 = g := ⟨_, rfl⟩
          rw [hg] at hA4 hge
          clear hA3 hg ho3 hg3 hv3 ho0 hb2 hsz
          subst hA4
          have hidx : ∀ W, (Instr.indexAt 59 (.slice (some ⟨g, 0, none⟩) n c3) (.int .i64 (k : Int))).run Tryd.prog W = .ok (.pointer (some ⟨g, k, none⟩)) W := fun W => by
            have := run_index_one (c := c3) (A := some ⟨g, 0, none⟩) Tryd.underlying59 hj hj1 rfl hlt W
            simpa using this
          have hlen4 : k < (us.flatMap encB).length := by rw [flat_len encB_len, HU.out]; omega
          have d0 : ∃ v, w3.cell? ⟨g, k, none⟩ = some v := ⟨(us.flatMap encB)[k], by rw [ho4.cellAt k (by omega)]; exact List.getElem?_eq_getElem _⟩
          obtain ⟨v0, d0⟩ := d0
          have f0 := ho4.frozenAt k
          have ho5 := own_set1 (k := k) ho4 HU.out
          have bw4 := below_set (p := ⟨g, k, none⟩) bw3 hge (.bool true)
          have HO5 := Lib.hid ho5
          have at5' := own_at encB_len ho5 HUS.out
          have ha5 := ha.belowS bw4
          clear ho4 ho5 hlen4
          go_wp2_with fail
          refine (IH.out _ n c l _ c3 _ _ hn HL.out HUS.out ha5 at5' hz (by omega) HLS.out).mono ?_
          rw [HV.out]
          rintro e w5 ⟨rfl, hb5⟩
          have bw5 := below_step bw4 hb5
          go_wp2_with fail
          go_roundw
          case rel => exact ⟨k + 1, acc + V, by go_num, by first | rfl | (congr 1), by omega, hacc2, HN, bw5⟩
          case measure => simp [intOf]; omega
      · obtain rfl : n = k := by omega
        have HD := Lib.hid (CountI.done (by rw [HL.out]; exact HI.out) (by rw [HL.out, HU.out]))
        go_wp2_with fail
        go_ret
        exact ⟨ret_int (by rw [HD.out]), hbw⟩
end Go.Proofs.YtmhmfdikncgdgaaDoor
