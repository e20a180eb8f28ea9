/- Which lists of nodes are trees, by both texts. -/
import Derived.Test.YthcfjiapmigjiaaDoorGet
import Derived.Test.YthcfjiapmigjiaaDoorTells
import Derived.Test.YthcfjiapmigjiaaDoorQ
import Derived.Deep.RegionHeld3
namespace Go.Proofs.YthcfjiapmigjiaaDoor
open Go.RowKit
set_option linter.unusedVariables false
set_option linter.unusedSimpArgs false
set_option maxRecDepth 20000

theorem okAt_no_self {l : List Nod} {k : Nat} {q : Nod} (hq : l[k]? = some q) (h : ¬ okNod q) : ¬ okAt l k := fun ho => h (ho q hq).1
theorem okAt_zero {l : List Nod} {q : Nod} (hq : l[0]? = some q) (h : okNod q) : okAt l 0 := fun n hn => by
  rw [hq] at hn
  injection hn with hn
  subst hn
  exact ⟨h, fun h0 => absurd h0 (by omega)⟩
theorem okAt_succ {l : List Nod} {j : Nat} {q m : Nod} (hq : l[j + 1]? = some q) (hm : l[j]? = some m) (h : okNod q) (hb : Op.bytesLess m.s q.s = true) : okAt l (j + 1) := fun n hn => by
  rw [hq] at hn
  injection hn with hn
  subst hn
  refine ⟨h, fun _ m' hm' => ?_⟩
  rw [Nat.add_sub_cancel, hm] at hm'
  injection hm' with hm'
  subst hm'
  exact hb
theorem okAt_no_order {l : List Nod} {j : Nat} {q m : Nod} (hq : l[j + 1]? = some q) (hm : l[j]? = some m) (hb : Op.bytesLess m.s q.s = false) : ¬ okAt l (j + 1) := fun h => by
  have := (h q hq).2 (by omega) m (by rw [Nat.add_sub_cancel]; exact hm)
  rw [hb] at this; cases this
theorem dirAt_of {l : List Nod} {k : Nat} {q : Nod} {x y : Int} (hq : l[k]? = some q) (hg : getN l (parentL q.s) = (x, y)) : dirAt l k ↔ x = 1 := by
  constructor
  · intro h
    have := h q hq
    rw [hg] at this
    exact this
  · intro h n hn
    rw [hq] at hn
    injection hn with hn
    subst hn
    rw [hg]; exact h
/-- All nodes ahead of k are good at their places. -/
def GoodTo (l : List Nod) (k : Nat) : Prop := ∀ j, j < k → okAt l j ∧ dirAt l j
theorem GoodTo.next {l : List Nod} {k : Nat} (h : GoodTo l k) (h1 : okAt l k) (h2 : dirAt l k) : GoodTo l (k + 1) := fun j hj => by
  by_cases hjk : j = k
  · subst hjk; exact ⟨h1, h2⟩
  · exact h j (by omega)
def OkTo (l : List Nod) (k : Nat) : Prop := ∀ j, j < k → okAt l j
theorem OkTo.next {l : List Nod} {k : Nat} (h : OkTo l k) (h1 : okAt l k) : OkTo l (k + 1) := fun j hj => by
  by_cases hjk : j = k
  · subst hjk; exact h1
  · exact h j (by omega)
theorem size_eq_s (q : Nod) : q.p.size = q.s.length := Lib.size_eq _


set_option maxHeartbeats 4000000 in
theorem specTree_any (A : Option Addr) (n c : Nat) (l : List Nod) (w : World) (hn : n ≤ 1100000) (hl : l.length = n) (ha : At encN 3 w A l) (hz : ∀ q ∈ l, q.p.size ≤ 1048576) :
    Calls Tryd.prog 22 #[.slice A n c] w (Tells (TreeP l) w) := by
  obtain ⟨i0, hi, hz0, hz1, hz2⟩ := info_parts infoN
  have HL := Lib.hid hl
  clear hl
  go_enter Tryd.func22, Tryd.ntmps22
  go_wp2_with fail
  go_loopw [3] (fun i wr => ∃ k : Nat, i = .int .i64 k ∧ k ≤ n ∧ Hid (GoodTo l k) ∧ Below w.heap.size w wr) (fun i _ => n - (intOf i).toNat)
  case atStart => exact ⟨0, rfl, Nat.zero_le _, Lib.hid (fun j hj => by omega), Below.refl _ _⟩
  case round =>
    obtain ⟨k, rfl, hk, HN, hbw⟩ := hrel
    by_cases hlt : k < n
    · have hlk : k < l.length := by rw [HL.out]; exact hlt
      have HA := Lib.hid (ha.addr (by omega))
      have hidx := fun W => run_index_any (c := c) Tryd.underlying27 hi hz1 HA.out hlt W
      obtain ⟨q, hq⟩ : ∃ q, l[k] = q := ⟨_, rfl⟩
      have HQ := Lib.hid (show l[k]? = some q by rw [List.getElem?_eq_getElem hlk, hq])
      have hqz := hz q (hq ▸ List.getElem_mem _)
      obtain ⟨c0, c1, c2⟩ := at3 (ha.belowS hbw) hlk hq
      have P0 := Blk.new wr 55 #[.string q.p, .int .i64 q.x, .int .i64 q.y]
      have bw0 := below_alloc hbw (.cells #[.string q.p, .int .i64 q.x, .int .i64 q.y] 55)
      obtain ⟨g, hg⟩ : ∃ g, wr.heap.size = g := ⟨_, rfl⟩
      obtain ⟨W0, hW0⟩ : ∃ W0, W0 = wr.alloc (.cells #[.string q.p, .int .i64 q.x, .int .i64 q.y] 55) := ⟨_, rfl⟩
      rw [hg, ← hW0] at P0
      rw [← hW0] at bw0
      obtain ⟨D, hD⟩ : ∃ D, depthL q.p.data.toList = D := ⟨_, rfl⟩
      have HD := Lib.hid hD
      obtain ⟨b, hb⟩ : ∃ b, okC q.x q.y = b := ⟨_, rfl⟩
      have HB := Lib.hid hb
      clear hq hD hb
      go_upto_region 5 with fail
      try rw [hg]
      rw [← hW0]
      clear hg hW0 c0 c1 c2 hidx
      obtain ⟨d0, d1, d2⟩ := blk3 P0
      have e0 : W0.drew.cell? ⟨g, 0, none⟩ = some (.string q.p) := d0
      have e1 : W0.drew.cell? ⟨g, 1, none⟩ = some (.int .i64 q.x) := d1
      have e2 : W0.drew.cell? ⟨g, 2, none⟩ = some (.int .i64 q.y) := d2
      have P1 : Blk W0.drew g 55 #[.string q.p, .int .i64 q.x, .int .i64 q.y] := P0
      have bw1 : Below w.heap.size w W0.drew := bw0.drew
      clear P0 bw0 d0 d1 d2

      by_cases hd : D < 1
      · have HW := Lib.hid (okAt_no_self HQ.out (show ¬ okNod q from fun h => by have h1 : 0 < depthL q.p.data.toList := h.1; rw [HD.out] at h1; omega))
        have hd' : decide (D < 1) = true := decide_eq_true hd
        obtain ⟨C, hC⟩ : ∃ C : World → Prop, C = fun w' => w'.cell? ⟨g, 0, none⟩ = some (.string q.p) ∧ w'.cell? ⟨g, 1, none⟩ = some (.int .i64 q.x) ∧ w'.cell? ⟨g, 2, none⟩ = some (.int .i64 q.y) ∧ Below (W0.drew).heap.size (W0.drew) w' := ⟨_, rfl⟩
        have HC1 := Lib.hid (show ∀ w', C w' → w'.cell? ⟨g, 0, none⟩ = some (.string q.p) ∧ w'.cell? ⟨g, 1, none⟩ = some (.int .i64 q.x) ∧ w'.cell? ⟨g, 2, none⟩ = some (.int .i64 q.y) ∧ Below (W0.drew).heap.size (W0.drew) w' by rw [hC]; exact fun _ h => h)
        have HC2 := Lib.hid (show ∀ w', w'.cell? ⟨g, 0, none⟩ = some (.string q.p) ∧ w'.cell? ⟨g, 1, none⟩ = some (.int .i64 q.x) ∧ w'.cell? ⟨g, 2, none⟩ = some (.int .i64 q.y) ∧ Below (W0.drew).heap.size (W0.drew) w' → C w' by rw [hC]; exact fun _ h => h)
        clear hC
        refine region_class C (by kernel_rfl) (by kernel_rfl) (HC2.out _ ⟨e0, e1, e2, Below.refl _ _⟩) ?_
        repeat (first
          | go_big_quiet_skip
          | (go_big_quiet_want; go_big_quiet_op; first
              | go_big_quiet_on
              | (apply Exists.intro; refine ⟨?_, ?_⟩; (rintro ⟨w', hw'⟩; with_reducible rfl); go_big_quiet_on)
              | (apply Exists.intro; refine ⟨fun w' hw' => ?_, ?_⟩; (obtain ⟨k0, k1, k2, kb⟩ := HC1.out w' hw'; first
                  | (with_reducible rfl)
                  | (go_at_call 46; refine (specDepth_any q.p _ hqz).mono ?_; rw [HD.out]; rintro e w2 ⟨rfl, hb⟩; exact ⟨rfl, HC2.out _ ⟨cell_later hb k0, cell_later hb k1, cell_later hb k2, below_step kb hb⟩⟩)
                  | (go_simp; with_reducible rfl)); go_big_quiet_on)))
        refine wpQuiet_nil ?_
        intro w3 hw3
        obtain ⟨k0, k1, k2, kb⟩ := HC1.out w3 hw3
        clear HC1 HC2 hw3
        have bw3 := below_step bw1 kb
        go_wp2_with fail
        go_ret
        exact Tells.no (fun h => HW.out (h.1 k hlk)) bw3
      have hd' : decide (D < 1) = false := decide_eq_false hd
      cases b with
      | false =>
        have HW := Lib.hid (okAt_no_self HQ.out (show ¬ okNod q from fun h => by have h1 := h.2.1; rw [HB.out] at h1; cases h1))
        obtain ⟨C, hC⟩ : ∃ C : World → Prop, C = fun w' => w'.cell? ⟨g, 0, none⟩ = some (.string q.p) ∧ w'.cell? ⟨g, 1, none⟩ = some (.int .i64 q.x) ∧ w'.cell? ⟨g, 2, none⟩ = some (.int .i64 q.y) ∧ Below (W0.drew).heap.size (W0.drew) w' := ⟨_, rfl⟩
        have HC1 := Lib.hid (show ∀ w', C w' → w'.cell? ⟨g, 0, none⟩ = some (.string q.p) ∧ w'.cell? ⟨g, 1, none⟩ = some (.int .i64 q.x) ∧ w'.cell? ⟨g, 2, none⟩ = some (.int .i64 q.y) ∧ Below (W0.drew).heap.size (W0.drew) w' by rw [hC]; exact fun _ h => h)
        have HC2 := Lib.hid (show ∀ w', w'.cell? ⟨g, 0, none⟩ = some (.string q.p) ∧ w'.cell? ⟨g, 1, none⟩ = some (.int .i64 q.x) ∧ w'.cell? ⟨g, 2, none⟩ = some (.int .i64 q.y) ∧ Below (W0.drew).heap.size (W0.drew) w' → C w' by rw [hC]; exact fun _ h => h)
        clear hC
        refine region_class C (by kernel_rfl) (by kernel_rfl) (HC2.out _ ⟨e0, e1, e2, Below.refl _ _⟩) ?_
        repeat (first
          | go_big_quiet_skip
          | (go_big_quiet_want; go_big_quiet_op; first
              | go_big_quiet_on
              | (apply Exists.intro; refine ⟨?_, ?_⟩; (rintro ⟨w', hw'⟩; with_reducible rfl); go_big_quiet_on)
              | (apply Exists.intro; refine ⟨fun w' hw' => ?_, ?_⟩; (obtain ⟨k0, k1, k2, kb⟩ := HC1.out w' hw'; first
                  | (with_reducible rfl)
                  | (go_at_call 46; refine (specDepth_any q.p _ hqz).mono ?_; rw [HD.out]; rintro e w2 ⟨rfl, hb⟩; exact ⟨rfl, HC2.out _ ⟨cell_later hb k0, cell_later hb k1, cell_later hb k2, below_step kb hb⟩⟩)
                  | (go_at_call 47; refine (specContentValid_any q.x q.y _).mono ?_; rw [HB.out]; rintro e w2 ⟨rfl, hb⟩; exact ⟨rfl, HC2.out _ ⟨cell_later hb k0, cell_later hb k1, cell_later hb k2, below_step kb hb⟩⟩)
                  | (go_simp; with_reducible rfl)); go_big_quiet_on)))
        refine wpQuiet_nil ?_
        intro w3 hw3
        obtain ⟨k0, k1, k2, kb⟩ := HC1.out w3 hw3
        clear HC1 HC2 hw3
        have bw3 := below_step bw1 kb
        go_wp2_with fail
        go_ret
        exact Tells.no (fun h => HW.out (h.1 k hlk)) bw3
      | true =>
        by_cases hx : q.x = 0
        · have HW := Lib.hid (okAt_no_self HQ.out (show ¬ okNod q from fun h => h.2.2 hx))
          have hx' : (q.x == 0) = true := by simpa using hx
          clear hx
          obtain ⟨C, hC⟩ : ∃ C : World → Prop, C = fun w' => w'.cell? ⟨g, 0, none⟩ = some (.string q.p) ∧ w'.cell? ⟨g, 1, none⟩ = some (.int .i64 q.x) ∧ w'.cell? ⟨g, 2, none⟩ = some (.int .i64 q.y) ∧ Below (W0.drew).heap.size (W0.drew) w' := ⟨_, rfl⟩
          have HC1 := Lib.hid (show ∀ w', C w' → w'.cell? ⟨g, 0, none⟩ = some (.string q.p) ∧ w'.cell? ⟨g, 1, none⟩ = some (.int .i64 q.x) ∧ w'.cell? ⟨g, 2, none⟩ = some (.int .i64 q.y) ∧ Below (W0.drew).heap.size (W0.drew) w' by rw [hC]; exact fun _ h => h)
          have HC2 := Lib.hid (show ∀ w', w'.cell? ⟨g, 0, none⟩ = some (.string q.p) ∧ w'.cell? ⟨g, 1, none⟩ = some (.int .i64 q.x) ∧ w'.cell? ⟨g, 2, none⟩ = some (.int .i64 q.y) ∧ Below (W0.drew).heap.size (W0.drew) w' → C w' by rw [hC]; exact fun _ h => h)
          clear hC
          refine region_class C (by kernel_rfl) (by kernel_rfl) (HC2.out _ ⟨e0, e1, e2, Below.refl _ _⟩) ?_
          repeat (first
            | go_big_quiet_skip
            | (go_big_quiet_want; go_big_quiet_op; first
                | go_big_quiet_on
                | (apply Exists.intro; refine ⟨?_, ?_⟩; (rintro ⟨w', hw'⟩; with_reducible rfl); go_big_quiet_on)
                | (apply Exists.intro; refine ⟨fun w' hw' => ?_, ?_⟩; (obtain ⟨k0, k1, k2, kb⟩ := HC1.out w' hw'; first
                    | (with_reducible rfl)
                    | (go_at_call 46; refine (specDepth_any q.p _ hqz).mono ?_; rw [HD.out]; rintro e w2 ⟨rfl, hb⟩; exact ⟨rfl, HC2.out _ ⟨cell_later hb k0, cell_later hb k1, cell_later hb k2, below_step kb hb⟩⟩)
                    | (go_at_call 47; refine (specContentValid_any q.x q.y _).mono ?_; rw [HB.out]; rintro e w2 ⟨rfl, hb⟩; exact ⟨rfl, HC2.out _ ⟨cell_later hb k0, cell_later hb k1, cell_later hb k2, below_step kb hb⟩⟩)
                    | (go_simp; with_reducible rfl)); go_big_quiet_on)))
          refine wpQuiet_nil ?_
          intro w3 hw3
          obtain ⟨k0, k1, k2, kb⟩ := HC1.out w3 hw3
          clear HC1 HC2 hw3
          have bw3 := below_step bw1 kb
          go_wp2_with fail
          go_ret
          exact Tells.no (fun h => HW.out (h.1 k hlk)) bw3
        have HND := Lib.hid (show okNod q from ⟨by show 0 < depthL q.p.data.toList; rw [HD.out]; omega, HB.out, hx⟩)
        have hx' : (q.x == 0) = false := by simpa using hx
        clear hx
        cases k with
        | zero =>
          have HOK := Lib.hid (okAt_zero HQ.out HND.out)
          have hk0 : decide ((0 : Int) < ((0 : Nat) : Int)) = false := rfl
          obtain ⟨C, hC⟩ : ∃ C : World → Prop, C = fun w' => w'.cell? ⟨g, 0, none⟩ = some (.string q.p) ∧ w'.cell? ⟨g, 1, none⟩ = some (.int .i64 q.x) ∧ w'.cell? ⟨g, 2, none⟩ = some (.int .i64 q.y) ∧ Below (W0.drew).heap.size (W0.drew) w' := ⟨_, rfl⟩
          have HC1 := Lib.hid (show ∀ w', C w' → w'.cell? ⟨g, 0, none⟩ = some (.string q.p) ∧ w'.cell? ⟨g, 1, none⟩ = some (.int .i64 q.x) ∧ w'.cell? ⟨g, 2, none⟩ = some (.int .i64 q.y) ∧ Below (W0.drew).heap.size (W0.drew) w' by rw [hC]; exact fun _ h => h)
          have HC2 := Lib.hid (show ∀ w', w'.cell? ⟨g, 0, none⟩ = some (.string q.p) ∧ w'.cell? ⟨g, 1, none⟩ = some (.int .i64 q.x) ∧ w'.cell? ⟨g, 2, none⟩ = some (.int .i64 q.y) ∧ Below (W0.drew).heap.size (W0.drew) w' → C w' by rw [hC]; exact fun _ h => h)
          clear hC
          refine region_class C (by kernel_rfl) (by kernel_rfl) (HC2.out _ ⟨e0, e1, e2, Below.refl _ _⟩) ?_
          repeat (first
            | go_big_quiet_skip
            | (go_big_quiet_want; go_big_quiet_op; first
                | go_big_quiet_on
                | (apply Exists.intro; refine ⟨?_, ?_⟩; (rintro ⟨w', hw'⟩; with_reducible rfl); go_big_quiet_on)
                | (apply Exists.intro; refine ⟨fun w' hw' => ?_, ?_⟩; (obtain ⟨k0, k1, k2, kb⟩ := HC1.out w' hw'; first
                    | (with_reducible rfl)
                    | (go_at_call 46; refine (specDepth_any q.p _ hqz).mono ?_; rw [HD.out]; rintro e w2 ⟨rfl, hb⟩; exact ⟨rfl, HC2.out _ ⟨cell_later hb k0, cell_later hb k1, cell_later hb k2, below_step kb hb⟩⟩)
                    | (go_at_call 47; refine (specContentValid_any q.x q.y _).mono ?_; rw [HB.out]; rintro e w2 ⟨rfl, hb⟩; exact ⟨rfl, HC2.out _ ⟨cell_later hb k0, cell_later hb k1, cell_later hb k2, below_step kb hb⟩⟩)
                    | (go_simp; with_reducible rfl)); go_big_quiet_on)))
          refine wpQuiet_nil ?_
          intro w3 hw3
          obtain ⟨k0, k1, k2, kb⟩ := HC1.out w3 hw3
          clear HC1 HC2 hw3
          have bw3 := below_step bw1 kb
          obtain ⟨f0, f1, f2⟩ := blk3 (P1.belowS kb)
          clear e0 e1 e2 P1 k0 k1 k2
          have hfl := fieldX
          go_wp2_with fail
          refine (specL1Parent_any q.p _ hqz).mono ?_
          rintro e w4 ⟨s4, rfl, hs4, rfl⟩
          have HS4 := Lib.hid hs4
          clear hs4
          go_wp2_with fail
          refine (specGet_any A n c l s4 _ (by omega) HL.out (ha.belowS bw3)).mono ?_
          rintro e w5 ⟨x, y, rfl, hxy, hb5⟩
          have bw5 := below_step bw3 hb5
          have HX := Lib.hid (dirAt_of HQ.out (show getN l (parentL q.s) = (x, y) by rw [← hxy, HS4.out]; rfl))
          clear hxy
          by_cases hx1 : x = 1
          · have HDR := Lib.hid (HX.out.2 hx1)
            subst hx1
            go_wp2_with fail
            go_roundw
            case rel => exact ⟨1, by go_num, by omega, Lib.hid (HN.out.next HOK.out HDR.out), bw5⟩
            case measure => simp [intOf]; omega
          · have HDR := Lib.hid (fun h => hx1 (HX.out.1 h))
            have hx2 : (x != 1) = true := by simpa using hx1
            clear hx1
            go_wp2_with fail
            go_ret
            exact Tells.no (fun h => HDR.out (h.2.1 _ hlk)) bw5
        | succ j =>
          have hlj : j < l.length := by omega
          have hidj := fun W => run_index_any (c := c) Tryd.underlying27 hi hz1 HA.out (show j < n by omega) W
          have hwr : IntKind.i64.wrap (((j + 1 : Nat) : Int) - 1) = (j : Int) := by rw [IntWalk.i64_in _ (by omega)]; omega
          have hk0 : decide ((0 : Int) < ((j + 1 : Nat) : Int)) = true := decide_eq_true (by omega)
          obtain ⟨m, hm⟩ : ∃ m, l[j] = m := ⟨_, rfl⟩
          have HM := Lib.hid (show l[j]? = some m by rw [List.getElem?_eq_getElem hlj, hm])
          obtain ⟨m0, m1, m2⟩ := at3 (ha.belowS bw1) hlj hm
          obtain ⟨r, hr⟩ : ∃ r, Op.bytesLess m.s q.s = r := ⟨_, rfl⟩
          have HR := Lib.hid hr
          have hr' : Op.bytesLess m.p.toList q.p.toList = r := by rw [toList_is rfl, toList_is rfl]; exact hr
          clear hm hr
          cases r with
          | false =>
            have HW := Lib.hid (okAt_no_order HQ.out HM.out HR.out)
            obtain ⟨C, hC⟩ : ∃ C : World → Prop, C = fun w' => w'.cell? ⟨g, 0, none⟩ = some (.string q.p) ∧ w'.cell? ⟨g, 1, none⟩ = some (.int .i64 q.x) ∧ w'.cell? ⟨g, 2, none⟩ = some (.int .i64 q.y) ∧ w'.cell? ⟨blk A, off A + j * 3, none⟩ = some (.string m.p) ∧ Below (W0.drew).heap.size (W0.drew) w' := ⟨_, rfl⟩
            have HC1 := Lib.hid (show ∀ w', C w' → w'.cell? ⟨g, 0, none⟩ = some (.string q.p) ∧ w'.cell? ⟨g, 1, none⟩ = some (.int .i64 q.x) ∧ w'.cell? ⟨g, 2, none⟩ = some (.int .i64 q.y) ∧ w'.cell? ⟨blk A, off A + j * 3, none⟩ = some (.string m.p) ∧ Below (W0.drew).heap.size (W0.drew) w' by rw [hC]; exact fun _ h => h)
            have HC2 := Lib.hid (show ∀ w', w'.cell? ⟨g, 0, none⟩ = some (.string q.p) ∧ w'.cell? ⟨g, 1, none⟩ = some (.int .i64 q.x) ∧ w'.cell? ⟨g, 2, none⟩ = some (.int .i64 q.y) ∧ w'.cell? ⟨blk A, off A + j * 3, none⟩ = some (.string m.p) ∧ Below (W0.drew).heap.size (W0.drew) w' → C w' by rw [hC]; exact fun _ h => h)
            clear hC
            refine region_class C (by kernel_rfl) (by kernel_rfl) (HC2.out _ ⟨e0, e1, e2, m0, Below.refl _ _⟩) ?_
            repeat (first
              | go_big_quiet_skip
              | (go_big_quiet_want; go_big_quiet_op; first
                  | go_big_quiet_on
                  | (apply Exists.intro; refine ⟨?_, ?_⟩; (rintro ⟨w', hw'⟩; with_reducible rfl); go_big_quiet_on)
                  | (apply Exists.intro; refine ⟨fun w' hw' => ?_, ?_⟩; (obtain ⟨k0, k1, k2, k3, kb⟩ := HC1.out w' hw'; first
                      | (with_reducible rfl)
                      | (go_at_call 46; refine (specDepth_any q.p _ hqz).mono ?_; rw [HD.out]; rintro e w2 ⟨rfl, hb⟩; exact ⟨rfl, HC2.out _ ⟨cell_later hb k0, cell_later hb k1, cell_later hb k2, cell_later hb k3, below_step kb hb⟩⟩)
                      | (go_at_call 47; refine (specContentValid_any q.x q.y _).mono ?_; rw [HB.out]; rintro e w2 ⟨rfl, hb⟩; exact ⟨rfl, HC2.out _ ⟨cell_later hb k0, cell_later hb k1, cell_later hb k2, cell_later hb k3, below_step kb hb⟩⟩)
                      | (go_simp; with_reducible rfl)); go_big_quiet_on)))
            refine wpQuiet_nil ?_
            intro w3 hw3
            obtain ⟨k0, k1, k2, k3, kb⟩ := HC1.out w3 hw3
            clear HC1 HC2 hw3
            have bw3 := below_step bw1 kb
            go_wp2_with fail
            go_ret
            exact Tells.no (fun h => HW.out (h.1 (j + 1) hlk)) bw3
          | true =>
            have HOK := Lib.hid (okAt_succ HQ.out HM.out HND.out HR.out)
            obtain ⟨C, hC⟩ : ∃ C : World → Prop, C = fun w' => w'.cell? ⟨g, 0, none⟩ = some (.string q.p) ∧ w'.cell? ⟨g, 1, none⟩ = some (.int .i64 q.x) ∧ w'.cell? ⟨g, 2, none⟩ = some (.int .i64 q.y) ∧ w'.cell? ⟨blk A, off A + j * 3, none⟩ = some (.string m.p) ∧ Below (W0.drew).heap.size (W0.drew) w' := ⟨_, rfl⟩
            have HC1 := Lib.hid (show ∀ w', C w' → w'.cell? ⟨g, 0, none⟩ = some (.string q.p) ∧ w'.cell? ⟨g, 1, none⟩ = some (.int .i64 q.x) ∧ w'.cell? ⟨g, 2, none⟩ = some (.int .i64 q.y) ∧ w'.cell? ⟨blk A, off A + j * 3, none⟩ = some (.string m.p) ∧ Below (W0.drew).heap.size (W0.drew) w' by rw [hC]; exact fun _ h => h)
            have HC2 := Lib.hid (show ∀ w', w'.cell? ⟨g, 0, none⟩ = some (.string q.p) ∧ w'.cell? ⟨g, 1, none⟩ = some (.int .i64 q.x) ∧ w'.cell? ⟨g, 2, none⟩ = some (.int .i64 q.y) ∧ w'.cell? ⟨blk A, off A + j * 3, none⟩ = some (.string m.p) ∧ Below (W0.drew).heap.size (W0.drew) w' → C w' by rw [hC]; exact fun _ h => h)
            clear hC
            refine region_class C (by kernel_rfl) (by kernel_rfl) (HC2.out _ ⟨e0, e1, e2, m0, Below.refl _ _⟩) ?_
            repeat (first
              | go_big_quiet_skip
              | (go_big_quiet_want; go_big_quiet_op; first
                  | go_big_quiet_on
                  | (apply Exists.intro; refine ⟨?_, ?_⟩; (rintro ⟨w', hw'⟩; with_reducible rfl); go_big_quiet_on)
                  | (apply Exists.intro; refine ⟨fun w' hw' => ?_, ?_⟩; (obtain ⟨k0, k1, k2, k3, kb⟩ := HC1.out w' hw'; first
                      | (with_reducible rfl)
                      | (go_at_call 46; refine (specDepth_any q.p _ hqz).mono ?_; rw [HD.out]; rintro e w2 ⟨rfl, hb⟩; exact ⟨rfl, HC2.out _ ⟨cell_later hb k0, cell_later hb k1, cell_later hb k2, cell_later hb k3, below_step kb hb⟩⟩)
                      | (go_at_call 47; refine (specContentValid_any q.x q.y _).mono ?_; rw [HB.out]; rintro e w2 ⟨rfl, hb⟩; exact ⟨rfl, HC2.out _ ⟨cell_later hb k0, cell_later hb k1, cell_later hb k2, cell_later hb k3, below_step kb hb⟩⟩)
                      | (go_simp; with_reducible rfl)); go_big_quiet_on)))
            refine wpQuiet_nil ?_
            intro w3 hw3
            obtain ⟨k0, k1, k2, k3, kb⟩ := HC1.out w3 hw3
            clear HC1 HC2 hw3
            have bw3 := below_step bw1 kb
            obtain ⟨f0, f1, f2⟩ := blk3 (P1.belowS kb)
            clear e0 e1 e2 P1 k0 k1 k2
            have hfl := fieldX
            go_wp2_with fail
            refine (specL1Parent_any q.p _ hqz).mono ?_
            rintro e w4 ⟨s4, rfl, hs4, rfl⟩
            have HS4 := Lib.hid hs4
            clear hs4
            go_wp2_with fail
            refine (specGet_any A n c l s4 _ (by omega) HL.out (ha.belowS bw3)).mono ?_
            rintro e w5 ⟨x, y, rfl, hxy, hb5⟩
            have bw5 := below_step bw3 hb5
            have HX := Lib.hid (dirAt_of HQ.out (show getN l (parentL q.s) = (x, y) by rw [← hxy, HS4.out]; rfl))
            clear hxy
            by_cases hx1 : x = 1
            · have HDR := Lib.hid (HX.out.2 hx1)
              subst hx1
              go_wp2_with fail
              go_roundw
              case rel => exact ⟨j + 1 + 1, by go_num, by omega, Lib.hid (HN.out.next HOK.out HDR.out), bw5⟩
              case measure => simp [intOf]; omega
            · have HDR := Lib.hid (fun h => hx1 (HX.out.1 h))
              have hx2 : (x != 1) = true := by simpa using hx1
              clear hx1
              go_wp2_with fail
              go_ret
              exact Tells.no (fun h => HDR.out (h.2.1 _ hlk)) bw5
    · obtain rfl : n = k := by omega
      have HT := Lib.hid (show TreeP l ↔ (n : Int) ≤ 10 from ⟨fun h => by have := h.2.2; rw [HL.out] at this; omega, fun h => ⟨fun j hj => (HN.out j (by rw [← HL.out]; exact hj)).1, fun j hj => (HN.out j (by rw [← HL.out]; exact hj)).2, by rw [HL.out]; omega⟩⟩)
      go_wp2_with fail
      go_ret
      exact ⟨decide ((n : Int) ≤ 10), rfl, by rw [decide_eq_true_eq]; exact HT.out.symm, hbw⟩

end Go.Proofs.YthcfjiapmigjiaaDoor
