/- Which lists of nodes are trees, by the program. -/
import Derived.Test.YthcfjiapmigjiaaDoorTreeV
import Derived.Test.YthcfjiapmigjiaaDoorMarkT
namespace Go.Proofs.YthcfjiapmigjiaaDoor
open Go.RowKit
set_option linter.unusedVariables false
set_option linter.unusedSimpArgs false
set_option maxRecDepth 20000


theorem dirTest_any (A : Option Addr) (n c : Nat) (l : List Nod) (g : Nat) (q : Nod) (w : World) (hn : n ≤ 1100000) (hl : l.length = n) (ha : At encN 3 w A l) (hq : okNod q) (hg : g < w.heap.size) (hc : w.cell? ⟨g, 0, none⟩ = some (.slice A n c)) :
    TestN 55 (.pointer (some ⟨g, 0, none⟩)) (fun n => !decide ((getN l (parentL n.s)).1 = 1)) q w := by
  intro wr hbr
  have hq8 := hq.size
  have hq2 : 2 ≤ q.p.size := by rw [size_eq_s]; exact ((path_len hq.path.1).2.2 hq.path.2).1
  have HL := Lib.hid hl
  clear hl hq
  have bw0 := below_alloc hbr (.cells #[.string q.p, .int .i64 q.x, .int .i64 q.y] 55)
  have bw00 := below_alloc (Below.refl wr.heap.size wr) (.cells #[.string q.p, .int .i64 q.x, .int .i64 q.y] 55)
  have P0 := Blk.new wr 55 #[.string q.p, .int .i64 q.x, .int .i64 q.y]
  obtain ⟨W0, hW0⟩ : ∃ W0, W0 = wr.alloc (.cells #[.string q.p, .int .i64 q.x, .int .i64 q.y] 55) := ⟨_, rfl⟩
  obtain ⟨h, hh⟩ : ∃ h, wr.heap.size = h := ⟨_, rfl⟩
  rw [← hW0] at bw0 bw00 P0
  rw [hh] at P0
  have hc0 : W0.drew.cell? ⟨g, 0, none⟩ = some (.slice A n c) := (bw0.drew.cell (p := ⟨g, 0, none⟩) hg).trans hc
  obtain ⟨d0, d1, d2⟩ := blk3 P0
  have e0 : W0.drew.cell? ⟨h, 0, none⟩ = some (.string q.p) := d0
  have ha1 : At encN 3 W0.drew A l := ha.belowS bw0.drew
  have bw1 : Below wr.heap.size wr W0.drew := bw00.drew
  clear ha bw0 bw00 P0 d1 d2 hbr hc
  go_enter Tryd.func55, Tryd.ntmps55
  go_upto_region 1 with fail
  try rw [hh]
  rw [← hW0]
  clear hW0 hh d0
  have hfl := fieldX
  obtain ⟨X, Y, hxy⟩ : ∃ X Y, getN l (parentL q.s) = (X, Y) := ⟨_, _, rfl⟩
  obtain ⟨sp, hsp⟩ : ∃ sp : ByteArray, sp.data.toList = parentL q.p.data.toList := ⟨⟨(parentL q.p.data.toList).toArray⟩, by simp⟩
  have HXY := Lib.hid hxy
  have HSP := Lib.hid hsp
  clear hxy hsp
  obtain ⟨C, hC⟩ : ∃ C : World → Prop, C = fun w' => w'.cell? ⟨h, 0, none⟩ = some (.string q.p) ∧ w'.cell? ⟨g, 0, none⟩ = some (.slice A n c) ∧ At encN 3 w' A l ∧ Below (W0.drew).heap.size (W0.drew) w' := ⟨_, rfl⟩
  have HC1 := Lib.hid (show ∀ w', C w' → w'.cell? ⟨h, 0, none⟩ = some (.string q.p) ∧ w'.cell? ⟨g, 0, none⟩ = some (.slice A n c) ∧ At encN 3 w' A l ∧ Below (W0.drew).heap.size (W0.drew) w' by rw [hC]; exact fun _ h => h)
  have HC2 := Lib.hid (show ∀ w', w'.cell? ⟨h, 0, none⟩ = some (.string q.p) ∧ w'.cell? ⟨g, 0, none⟩ = some (.slice A n c) ∧ At encN 3 w' A l ∧ Below (W0.drew).heap.size (W0.drew) w' → C w' by rw [hC]; exact fun _ h => h)
  clear hC
  refine region_class C (by kernel_rfl) (by kernel_rfl) (HC2.out _ ⟨e0, hc0, ha1, Below.refl _ _⟩) ?_
  repeat (first
    | go_big_quiet_skip
    | (go_big_quiet_want; go_big_quiet_op; first
        | go_big_quiet_on
        | (apply Exists.intro; refine ⟨?_, ?_⟩; (rintro ⟨w', hw'⟩; with_reducible rfl); go_big_quiet_on)
        | (apply Exists.intro; refine ⟨fun w' hw' => ?_, ?_⟩; (obtain ⟨k0, k1, k2, kb⟩ := HC1.out w' hw'; first
            | (with_reducible rfl)
            | (go_at_call 56; refine (implParent_any q.p _ (by omega) hq2).mono ?_; rintro e w2 ⟨s2, rfl, hs2, rfl⟩; obtain rfl : s2 = sp := (bytes_eq hs2).trans (bytes_eq HSP.out).symm; first | exact ⟨rfl, hw'⟩ | exact ⟨rfl, HC2.out _ ⟨cell_later hb k0, cell_later hb k1, k2.belowS hb, below_step kb hb⟩⟩)
            | (go_at_call 29; refine (implGet_any A n c l sp _ (by omega) HL.out k2).mono ?_; rintro e w2 ⟨x, y, rfl, hxy, hb⟩; have h1 : (X, Y) = (x, y) := (by rw [← HXY.out, ← hxy, HSP.out]; rfl); injection h1 with h1 h2; subst h1; subst h2; exact ⟨rfl, HC2.out _ ⟨cell_later hb k0, cell_later hb k1, k2.belowS hb, below_step kb hb⟩⟩)
            | (go_simp; with_reducible rfl)); go_big_quiet_on)))
  refine wpQuiet_nil ?_
  intro w3 hw3
  obtain ⟨k0, k1, k2, kb⟩ := HC1.out w3 hw3
  clear HC1 HC2 hw3
  have bw3 := below_step bw1 kb
  clear e0 hc0 ha1 k0 k1 k2
  go_wp2_with fail
  go_ret
  refine ⟨ret_bool ?_, bw3⟩
  simp only [HXY.out]
  rw [Bool.eq_iff_iff]; simp

set_option maxHeartbeats 4000000 in
theorem implTree_any (A : Option Addr) (n c : Nat) (l : List Nod) (w : World) (hn : n ≤ 1100000) (hl : l.length = n) (ha : At encN 3 w A l) (hz : ∀ q ∈ l, q.p.size ≤ 1048576) (hm : MaxAt w) :
    Calls Tryd.prog 27 #[.slice A n c] w (Tells (TreeP l) w) := by
  obtain ⟨i0, hi, hz0, hz1, hz2⟩ := info_parts infoN
  have HL := Lib.hid hl
  have HMX := Lib.hid hm
  clear hl hm
  have G0 := Blk.new w 27 #[.slice A n c]
  have bwG := below_alloc (Below.refl w.heap.size w) (.cells #[.slice A n c] 27)
  obtain ⟨gl, hgl⟩ : ∃ gl, w.heap.size = gl := ⟨_, rfl⟩
  obtain ⟨WG, hWG⟩ : ∃ WG, WG = w.alloc (.cells #[.slice A n c] 27) := ⟨_, rfl⟩
  rw [hgl, ← hWG] at G0
  rw [← hWG] at bwG
  go_enter Tryd.func27, Tryd.ntmps27
  go_upto_region 2 with fail
  try rw [hgl]
  rw [← hWG]
  clear hWG hgl
  go_loopw [7] (fun i wr => ∃ k : Nat, i = .int .i64 k ∧ k ≤ n ∧ Hid (OkTo l k) ∧ Blk wr gl 27 #[.slice A n c] ∧ Below w.heap.size w wr) (fun i _ => n - (intOf i).toNat)
  case atStart => exact ⟨0, rfl, Nat.zero_le _, Lib.hid (fun j hj => by omega), G0, bwG⟩
  case round =>
    clear G0 bwG
    obtain ⟨k, rfl, hk, HN, GB, hbw⟩ := hrel
    by_cases hlt : k < n
    · have hlk : k < l.length := by rw [HL.out]; exact hlt
      have HA := Lib.hid (ha.addr (by omega))
      have hidx := fun W => run_index_any (c := c) Tryd.underlying27 hi hz1 HA.out hlt W
      obtain ⟨q, hq⟩ : ∃ q, l[k] = q := ⟨_, rfl⟩
      have HQ := Lib.hid (show l[k]? = some q by rw [List.getElem?_eq_getElem hlk, hq])
      have hqz := hz q (hq ▸ List.getElem_mem _)
      obtain ⟨c0, c1, c2⟩ := at3 (ha.belowS hbw) hlk hq
      have P0 := Blk.new wr 55 #[.string q.p, .int .i64 q.x, .int .i64 q.y]
      have bw0 := below_alloc hbw (.cells #[.string q.p, .int .i64 q.x, .int .i64 q.y] 55)
      have G1 := GB.alloc (.cells #[.string q.p, .int .i64 q.x, .int .i64 q.y] 55)
      obtain ⟨g, hg⟩ : ∃ g, wr.heap.size = g := ⟨_, rfl⟩
      obtain ⟨W0, hW0⟩ : ∃ W0, W0 = wr.alloc (.cells #[.string q.p, .int .i64 q.x, .int .i64 q.y] 55) := ⟨_, rfl⟩
      rw [hg, ← hW0] at P0
      rw [← hW0] at bw0 G1
      obtain ⟨D, hD⟩ : ∃ D, pathB q.p.data.toList = D := ⟨_, rfl⟩
      have HD := Lib.hid hD
      obtain ⟨b, hb⟩ : ∃ b, okC q.x q.y = b := ⟨_, rfl⟩
      have HB := Lib.hid hb
      clear hq hD hb
      go_upto_region 4 with fail
      try rw [hg]
      rw [← hW0]
      clear hg hW0 c0 c1 c2 hidx GB
      obtain ⟨d0, d1, d2⟩ := blk3 P0
      have e0 : W0.drew.cell? ⟨g, 0, none⟩ = some (.string q.p) := d0
      have e1 : W0.drew.cell? ⟨g, 1, none⟩ = some (.int .i64 q.x) := d1
      have e2 : W0.drew.cell? ⟨g, 2, none⟩ = some (.int .i64 q.y) := d2
      have e3 : W0.drew.cell? ⟨gl, 0, none⟩ = some (.slice A n c) := G1.cell 0
      have G2 : Blk W0.drew gl 27 #[.slice A n c] := G1
      have bw1 : Below w.heap.size w W0.drew := bw0.drew
      have HM1 := Lib.hid (HMX.out.belowS bw1)
      clear P0 bw0 d0 d1 d2 G1

      cases D with
      | false =>
        have HW := Lib.hid (okAt_no_self HQ.out (show ¬ okNod q from fun h => by have := h.path.1.symm.trans (show pathB q.s = false from HD.out); cases this))
        obtain ⟨C, hC⟩ : ∃ C : World → Prop, C = fun w' => w'.cell? ⟨g, 0, none⟩ = some (.string q.p) ∧ w'.cell? ⟨g, 1, none⟩ = some (.int .i64 q.x) ∧ w'.cell? ⟨g, 2, none⟩ = some (.int .i64 q.y) ∧ w'.cell? ⟨gl, 0, none⟩ = some (.slice A n c) ∧ Below (W0.drew).heap.size (W0.drew) w' := ⟨_, rfl⟩
        have HC1 := Lib.hid (show ∀ w', C w' → w'.cell? ⟨g, 0, none⟩ = some (.string q.p) ∧ w'.cell? ⟨g, 1, none⟩ = some (.int .i64 q.x) ∧ w'.cell? ⟨g, 2, none⟩ = some (.int .i64 q.y) ∧ w'.cell? ⟨gl, 0, none⟩ = some (.slice A n c) ∧ Below (W0.drew).heap.size (W0.drew) w' by rw [hC]; exact fun _ h => h)
        have HC2 := Lib.hid (show ∀ w', w'.cell? ⟨g, 0, none⟩ = some (.string q.p) ∧ w'.cell? ⟨g, 1, none⟩ = some (.int .i64 q.x) ∧ w'.cell? ⟨g, 2, none⟩ = some (.int .i64 q.y) ∧ w'.cell? ⟨gl, 0, none⟩ = some (.slice A n c) ∧ Below (W0.drew).heap.size (W0.drew) w' → C w' by rw [hC]; exact fun _ h => h)
        clear hC
        refine region_class C (by kernel_rfl) (by kernel_rfl) (HC2.out _ ⟨e0, e1, e2, e3, Below.refl _ _⟩) ?_
        repeat (first
          | go_big_quiet_skip
          | (go_big_quiet_want; go_big_quiet_op; first
              | go_big_quiet_on
              | (apply Exists.intro; refine ⟨?_, ?_⟩; (rintro ⟨w', hw'⟩; with_reducible rfl); go_big_quiet_on)
              | (apply Exists.intro; refine ⟨fun w' hw' => ?_, ?_⟩; (obtain ⟨k0, k1, k2, k3, kb⟩ := HC1.out w' hw'; first
                  | (with_reducible rfl)
                  | (go_at_call 52; refine (implPath_any q.p _ hqz (HMX.out.belowS (below_step bw1 kb))).mono ?_; rw [HD.out]; rintro e w2 ⟨rfl, hb⟩; exact ⟨rfl, HC2.out _ ⟨cell_later hb k0, cell_later hb k1, cell_later hb k2, cell_later hb k3, below_step kb hb⟩⟩)
                  | (go_simp; with_reducible rfl)); go_big_quiet_on)))
        refine wpQuiet_nil ?_
        intro w3 hw3
        obtain ⟨k0, k1, k2, k3, kb⟩ := HC1.out w3 hw3
        clear HC1 HC2 hw3
        have bw3 := below_step bw1 kb
        go_wp2_with fail
        go_ret
        exact Tells.no (fun h => HW.out (h.1 k hlk)) bw3
      | true =>
        by_cases hrt : q.p.data.toList = [47]
        · have HW := Lib.hid (okAt_no_self HQ.out (show ¬ okNod q from fun h => h.path.2 hrt))
          have hrt' : (q.p.toList == [47]) = true := by rw [toList_beq rfl]; exact decide_eq_true hrt
          clear hrt
          obtain ⟨C, hC⟩ : ∃ C : World → Prop, C = fun w' => w'.cell? ⟨g, 0, none⟩ = some (.string q.p) ∧ w'.cell? ⟨g, 1, none⟩ = some (.int .i64 q.x) ∧ w'.cell? ⟨g, 2, none⟩ = some (.int .i64 q.y) ∧ w'.cell? ⟨gl, 0, none⟩ = some (.slice A n c) ∧ Below (W0.drew).heap.size (W0.drew) w' := ⟨_, rfl⟩
          have HC1 := Lib.hid (show ∀ w', C w' → w'.cell? ⟨g, 0, none⟩ = some (.string q.p) ∧ w'.cell? ⟨g, 1, none⟩ = some (.int .i64 q.x) ∧ w'.cell? ⟨g, 2, none⟩ = some (.int .i64 q.y) ∧ w'.cell? ⟨gl, 0, none⟩ = some (.slice A n c) ∧ Below (W0.drew).heap.size (W0.drew) w' by rw [hC]; exact fun _ h => h)
          have HC2 := Lib.hid (show ∀ w', w'.cell? ⟨g, 0, none⟩ = some (.string q.p) ∧ w'.cell? ⟨g, 1, none⟩ = some (.int .i64 q.x) ∧ w'.cell? ⟨g, 2, none⟩ = some (.int .i64 q.y) ∧ w'.cell? ⟨gl, 0, none⟩ = some (.slice A n c) ∧ Below (W0.drew).heap.size (W0.drew) w' → C w' by rw [hC]; exact fun _ h => h)
          clear hC
          refine region_class C (by kernel_rfl) (by kernel_rfl) (HC2.out _ ⟨e0, e1, e2, e3, Below.refl _ _⟩) ?_
          repeat (first
            | go_big_quiet_skip
            | (go_big_quiet_want; go_big_quiet_op; first
                | go_big_quiet_on
                | (apply Exists.intro; refine ⟨?_, ?_⟩; (rintro ⟨w', hw'⟩; with_reducible rfl); go_big_quiet_on)
                | (apply Exists.intro; refine ⟨fun w' hw' => ?_, ?_⟩; (obtain ⟨k0, k1, k2, k3, kb⟩ := HC1.out w' hw'; first
                    | (with_reducible rfl)
                    | (go_at_call 52; refine (implPath_any q.p _ hqz (HMX.out.belowS (below_step bw1 kb))).mono ?_; rw [HD.out]; rintro e w2 ⟨rfl, hb⟩; exact ⟨rfl, HC2.out _ ⟨cell_later hb k0, cell_later hb k1, cell_later hb k2, cell_later hb k3, below_step kb hb⟩⟩)
                    | (go_simp; with_reducible rfl)); go_big_quiet_on)))
          refine wpQuiet_nil ?_
          intro w3 hw3
          obtain ⟨k0, k1, k2, k3, kb⟩ := HC1.out w3 hw3
          clear HC1 HC2 hw3
          have bw3 := below_step bw1 kb
          go_wp2_with fail
          go_ret
          exact Tells.no (fun h => HW.out (h.1 k hlk)) bw3
        have HDP := Lib.hid (depth_pos.2 ⟨HD.out, hrt⟩)
        have hrt' : (q.p.toList == [47]) = false := by rw [toList_beq rfl]; exact decide_eq_false hrt
        clear hrt
        cases k with
        | zero =>
          have hk0 : decide ((0 : Int) < ((0 : Nat) : Int)) = false := rfl
          cases b with
          | false =>
            have HW := Lib.hid (okAt_no_self HQ.out (show ¬ okNod q from fun h => by have h1 := h.2.1; rw [HB.out] at h1; cases h1))
            obtain ⟨C, hC⟩ : ∃ C : World → Prop, C = fun w' => w'.cell? ⟨g, 0, none⟩ = some (.string q.p) ∧ w'.cell? ⟨g, 1, none⟩ = some (.int .i64 q.x) ∧ w'.cell? ⟨g, 2, none⟩ = some (.int .i64 q.y) ∧ w'.cell? ⟨gl, 0, none⟩ = some (.slice A n c) ∧ Below (W0.drew).heap.size (W0.drew) w' := ⟨_, rfl⟩
            have HC1 := Lib.hid (show ∀ w', C w' → w'.cell? ⟨g, 0, none⟩ = some (.string q.p) ∧ w'.cell? ⟨g, 1, none⟩ = some (.int .i64 q.x) ∧ w'.cell? ⟨g, 2, none⟩ = some (.int .i64 q.y) ∧ w'.cell? ⟨gl, 0, none⟩ = some (.slice A n c) ∧ Below (W0.drew).heap.size (W0.drew) w' by rw [hC]; exact fun _ h => h)
            have HC2 := Lib.hid (show ∀ w', w'.cell? ⟨g, 0, none⟩ = some (.string q.p) ∧ w'.cell? ⟨g, 1, none⟩ = some (.int .i64 q.x) ∧ w'.cell? ⟨g, 2, none⟩ = some (.int .i64 q.y) ∧ w'.cell? ⟨gl, 0, none⟩ = some (.slice A n c) ∧ Below (W0.drew).heap.size (W0.drew) w' → C w' by rw [hC]; exact fun _ h => h)
            clear hC
            refine region_class C (by kernel_rfl) (by kernel_rfl) (HC2.out _ ⟨e0, e1, e2, e3, Below.refl _ _⟩) ?_
            repeat (first
              | go_big_quiet_skip
              | (go_big_quiet_want; go_big_quiet_op; first
                  | go_big_quiet_on
                  | (apply Exists.intro; refine ⟨?_, ?_⟩; (rintro ⟨w', hw'⟩; with_reducible rfl); go_big_quiet_on)
                  | (apply Exists.intro; refine ⟨fun w' hw' => ?_, ?_⟩; (obtain ⟨k0, k1, k2, k3, kb⟩ := HC1.out w' hw'; first
                      | (with_reducible rfl)
                      | (go_at_call 52; refine (implPath_any q.p _ hqz (HMX.out.belowS (below_step bw1 kb))).mono ?_; rw [HD.out]; rintro e w2 ⟨rfl, hb⟩; exact ⟨rfl, HC2.out _ ⟨cell_later hb k0, cell_later hb k1, cell_later hb k2, cell_later hb k3, below_step kb hb⟩⟩)
                      | (go_at_call 53; refine (implContentValid_any q.x q.y _).mono ?_; rw [HB.out]; rintro e w2 ⟨rfl, hb⟩; exact ⟨rfl, HC2.out _ ⟨cell_later hb k0, cell_later hb k1, cell_later hb k2, cell_later hb k3, below_step kb hb⟩⟩)
                      | (go_simp; with_reducible rfl)); go_big_quiet_on)))
            refine wpQuiet_nil ?_
            intro w3 hw3
            obtain ⟨k0, k1, k2, k3, kb⟩ := HC1.out w3 hw3
            clear HC1 HC2 hw3
            have bw3 := below_step bw1 kb
            go_wp2_with fail
            go_ret
            exact Tells.no (fun h => HW.out (h.1 _ hlk)) bw3
          | true =>
            by_cases hx : q.x = 0
            · have HW := Lib.hid (okAt_no_self HQ.out (show ¬ okNod q from fun h => h.2.2 hx))
              have hx' : (q.x == 0) = true := by simpa using hx
              clear hx
              obtain ⟨C, hC⟩ : ∃ C : World → Prop, C = fun w' => w'.cell? ⟨g, 0, none⟩ = some (.string q.p) ∧ w'.cell? ⟨g, 1, none⟩ = some (.int .i64 q.x) ∧ w'.cell? ⟨g, 2, none⟩ = some (.int .i64 q.y) ∧ w'.cell? ⟨gl, 0, none⟩ = some (.slice A n c) ∧ Below (W0.drew).heap.size (W0.drew) w' := ⟨_, rfl⟩
              have HC1 := Lib.hid (show ∀ w', C w' → w'.cell? ⟨g, 0, none⟩ = some (.string q.p) ∧ w'.cell? ⟨g, 1, none⟩ = some (.int .i64 q.x) ∧ w'.cell? ⟨g, 2, none⟩ = some (.int .i64 q.y) ∧ w'.cell? ⟨gl, 0, none⟩ = some (.slice A n c) ∧ Below (W0.drew).heap.size (W0.drew) w' by rw [hC]; exact fun _ h => h)
              have HC2 := Lib.hid (show ∀ w', w'.cell? ⟨g, 0, none⟩ = some (.string q.p) ∧ w'.cell? ⟨g, 1, none⟩ = some (.int .i64 q.x) ∧ w'.cell? ⟨g, 2, none⟩ = some (.int .i64 q.y) ∧ w'.cell? ⟨gl, 0, none⟩ = some (.slice A n c) ∧ Below (W0.drew).heap.size (W0.drew) w' → C w' by rw [hC]; exact fun _ h => h)
              clear hC
              refine region_class C (by kernel_rfl) (by kernel_rfl) (HC2.out _ ⟨e0, e1, e2, e3, Below.refl _ _⟩) ?_
              repeat (first
                | go_big_quiet_skip
                | (go_big_quiet_want; go_big_quiet_op; first
                    | go_big_quiet_on
                    | (apply Exists.intro; refine ⟨?_, ?_⟩; (rintro ⟨w', hw'⟩; with_reducible rfl); go_big_quiet_on)
                    | (apply Exists.intro; refine ⟨fun w' hw' => ?_, ?_⟩; (obtain ⟨k0, k1, k2, k3, kb⟩ := HC1.out w' hw'; first
                        | (with_reducible rfl)
                        | (go_at_call 52; refine (implPath_any q.p _ hqz (HMX.out.belowS (below_step bw1 kb))).mono ?_; rw [HD.out]; rintro e w2 ⟨rfl, hb⟩; exact ⟨rfl, HC2.out _ ⟨cell_later hb k0, cell_later hb k1, cell_later hb k2, cell_later hb k3, below_step kb hb⟩⟩)
                        | (go_at_call 53; refine (implContentValid_any q.x q.y _).mono ?_; rw [HB.out]; rintro e w2 ⟨rfl, hb⟩; exact ⟨rfl, HC2.out _ ⟨cell_later hb k0, cell_later hb k1, cell_later hb k2, cell_later hb k3, below_step kb hb⟩⟩)
                        | (go_simp; with_reducible rfl)); go_big_quiet_on)))
              refine wpQuiet_nil ?_
              intro w3 hw3
              obtain ⟨k0, k1, k2, k3, kb⟩ := HC1.out w3 hw3
              clear HC1 HC2 hw3
              have bw3 := below_step bw1 kb
              go_wp2_with fail
              go_ret
              exact Tells.no (fun h => HW.out (h.1 _ hlk)) bw3
            · have HND := Lib.hid (show okNod q from ⟨HDP.out, HB.out, hx⟩)
              have hx' : (q.x == 0) = false := by simpa using hx
              have HOK := Lib.hid (okAt_zero HQ.out HND.out)
              clear hx
              obtain ⟨C, hC⟩ : ∃ C : World → Prop, C = fun w' => w'.cell? ⟨g, 0, none⟩ = some (.string q.p) ∧ w'.cell? ⟨g, 1, none⟩ = some (.int .i64 q.x) ∧ w'.cell? ⟨g, 2, none⟩ = some (.int .i64 q.y) ∧ w'.cell? ⟨gl, 0, none⟩ = some (.slice A n c) ∧ Below (W0.drew).heap.size (W0.drew) w' := ⟨_, rfl⟩
              have HC1 := Lib.hid (show ∀ w', C w' → w'.cell? ⟨g, 0, none⟩ = some (.string q.p) ∧ w'.cell? ⟨g, 1, none⟩ = some (.int .i64 q.x) ∧ w'.cell? ⟨g, 2, none⟩ = some (.int .i64 q.y) ∧ w'.cell? ⟨gl, 0, none⟩ = some (.slice A n c) ∧ Below (W0.drew).heap.size (W0.drew) w' by rw [hC]; exact fun _ h => h)
              have HC2 := Lib.hid (show ∀ w', w'.cell? ⟨g, 0, none⟩ = some (.string q.p) ∧ w'.cell? ⟨g, 1, none⟩ = some (.int .i64 q.x) ∧ w'.cell? ⟨g, 2, none⟩ = some (.int .i64 q.y) ∧ w'.cell? ⟨gl, 0, none⟩ = some (.slice A n c) ∧ Below (W0.drew).heap.size (W0.drew) w' → C w' by rw [hC]; exact fun _ h => h)
              clear hC
              refine region_class C (by kernel_rfl) (by kernel_rfl) (HC2.out _ ⟨e0, e1, e2, e3, Below.refl _ _⟩) ?_
              repeat (first
                | go_big_quiet_skip
                | (go_big_quiet_want; go_big_quiet_op; first
                    | go_big_quiet_on
                    | (apply Exists.intro; refine ⟨?_, ?_⟩; (rintro ⟨w', hw'⟩; with_reducible rfl); go_big_quiet_on)
                    | (apply Exists.intro; refine ⟨fun w' hw' => ?_, ?_⟩; (obtain ⟨k0, k1, k2, k3, kb⟩ := HC1.out w' hw'; first
                        | (with_reducible rfl)
                        | (go_at_call 52; refine (implPath_any q.p _ hqz (HMX.out.belowS (below_step bw1 kb))).mono ?_; rw [HD.out]; rintro e w2 ⟨rfl, hb⟩; exact ⟨rfl, HC2.out _ ⟨cell_later hb k0, cell_later hb k1, cell_later hb k2, cell_later hb k3, below_step kb hb⟩⟩)
                        | (go_at_call 53; refine (implContentValid_any q.x q.y _).mono ?_; rw [HB.out]; rintro e w2 ⟨rfl, hb⟩; exact ⟨rfl, HC2.out _ ⟨cell_later hb k0, cell_later hb k1, cell_later hb k2, cell_later hb k3, below_step kb hb⟩⟩)
                        | (go_simp; with_reducible rfl)); go_big_quiet_on)))
              refine wpQuiet_nil ?_
              intro w3 hw3
              obtain ⟨k0, k1, k2, k3, kb⟩ := HC1.out w3 hw3
              clear HC1 HC2 hw3
              have bw3 := below_step bw1 kb
              have G3 := G2.belowS kb
              clear e0 e1 e2 e3 G2 k0 k1 k2 k3
              go_wp2_with fail
              go_roundw
              case rel => exact ⟨1, by go_num, by omega, Lib.hid (HN.out.next HOK.out), G3, bw3⟩
              case measure => simp [intOf]; omega
        | succ j =>
          have hlj : j < l.length := by omega
          have hidj := fun W => run_index_any (c := c) Tryd.underlying27 hi hz1 HA.out (show j < n by omega) W
          have hwr : IntKind.i64.wrap (((j + 1 : Nat) : Int) - 1) = (j : Int) := by rw [IntWalk.i64_in _ (by omega)]; omega
          have hk0 : decide ((0 : Int) < ((j + 1 : Nat) : Int)) = true := decide_eq_true (by omega)
          obtain ⟨m, hm⟩ : ∃ m, l[j] = m := ⟨_, rfl⟩
          have HM := Lib.hid (show l[j]? = some m by rw [List.getElem?_eq_getElem hlj, hm])
          obtain ⟨m0, m1, m2⟩ := at3 (ha.belowS bw1) hlj hm
          obtain ⟨r, hr⟩ : ∃ r, Op.bytesLess m.s q.s = r := ⟨_, rfl⟩
          have HR := Lib.hid hr
          have hr' : (Op.bytesLess q.p.toList m.p.toList || q.p.toList == m.p.toList) = !r := by rw [toList_is rfl, toList_is rfl, ← hr]; exact (leq_eq _ _)
          clear hm hr
          cases r with
          | false =>
            have HW := Lib.hid (okAt_no_order HQ.out HM.out HR.out)
            rw [Bool.not_false] at hr'
            obtain ⟨C, hC⟩ : ∃ C : World → Prop, C = fun w' => w'.cell? ⟨g, 0, none⟩ = some (.string q.p) ∧ w'.cell? ⟨g, 1, none⟩ = some (.int .i64 q.x) ∧ w'.cell? ⟨g, 2, none⟩ = some (.int .i64 q.y) ∧ w'.cell? ⟨gl, 0, none⟩ = some (.slice A n c) ∧ w'.cell? ⟨blk A, off A + j * 3, none⟩ = some (.string m.p) ∧ Below (W0.drew).heap.size (W0.drew) w' := ⟨_, rfl⟩
            have HC1 := Lib.hid (show ∀ w', C w' → w'.cell? ⟨g, 0, none⟩ = some (.string q.p) ∧ w'.cell? ⟨g, 1, none⟩ = some (.int .i64 q.x) ∧ w'.cell? ⟨g, 2, none⟩ = some (.int .i64 q.y) ∧ w'.cell? ⟨gl, 0, none⟩ = some (.slice A n c) ∧ w'.cell? ⟨blk A, off A + j * 3, none⟩ = some (.string m.p) ∧ Below (W0.drew).heap.size (W0.drew) w' by rw [hC]; exact fun _ h => h)
            have HC2 := Lib.hid (show ∀ w', w'.cell? ⟨g, 0, none⟩ = some (.string q.p) ∧ w'.cell? ⟨g, 1, none⟩ = some (.int .i64 q.x) ∧ w'.cell? ⟨g, 2, none⟩ = some (.int .i64 q.y) ∧ w'.cell? ⟨gl, 0, none⟩ = some (.slice A n c) ∧ w'.cell? ⟨blk A, off A + j * 3, none⟩ = some (.string m.p) ∧ Below (W0.drew).heap.size (W0.drew) w' → C w' by rw [hC]; exact fun _ h => h)
            clear hC
            refine region_class C (by kernel_rfl) (by kernel_rfl) (HC2.out _ ⟨e0, e1, e2, e3, m0, Below.refl _ _⟩) ?_
            repeat (first
              | go_big_quiet_skip
              | (go_big_quiet_want; go_big_quiet_op; first
                  | go_big_quiet_on
                  | (apply Exists.intro; refine ⟨?_, ?_⟩; (rintro ⟨w', hw'⟩; with_reducible rfl); go_big_quiet_on)
                  | (apply Exists.intro; refine ⟨fun w' hw' => ?_, ?_⟩; (obtain ⟨k0, k1, k2, k3, k4, kb⟩ := HC1.out w' hw'; first
                      | (with_reducible rfl)
                      | (go_at_call 52; refine (implPath_any q.p _ hqz (HMX.out.belowS (below_step bw1 kb))).mono ?_; rw [HD.out]; rintro e w2 ⟨rfl, hb⟩; exact ⟨rfl, HC2.out _ ⟨cell_later hb k0, cell_later hb k1, cell_later hb k2, cell_later hb k3, cell_later hb k4, below_step kb hb⟩⟩)
                      | (go_simp; with_reducible rfl)); go_big_quiet_on)))
            refine wpQuiet_nil ?_
            intro w3 hw3
            obtain ⟨k0, k1, k2, k3, k4, kb⟩ := HC1.out w3 hw3
            clear HC1 HC2 hw3
            have bw3 := below_step bw1 kb
            go_wp2_with fail
            go_ret
            exact Tells.no (fun h => HW.out (h.1 (j + 1) hlk)) bw3
          | true =>
            rw [Bool.not_true] at hr'
            cases b with
            | false =>
              have HW := Lib.hid (okAt_no_self HQ.out (show ¬ okNod q from fun h => by have h1 := h.2.1; rw [HB.out] at h1; cases h1))
              obtain ⟨C, hC⟩ : ∃ C : World → Prop, C = fun w' => w'.cell? ⟨g, 0, none⟩ = some (.string q.p) ∧ w'.cell? ⟨g, 1, none⟩ = some (.int .i64 q.x) ∧ w'.cell? ⟨g, 2, none⟩ = some (.int .i64 q.y) ∧ w'.cell? ⟨gl, 0, none⟩ = some (.slice A n c) ∧ w'.cell? ⟨blk A, off A + j * 3, none⟩ = some (.string m.p) ∧ Below (W0.drew).heap.size (W0.drew) w' := ⟨_, rfl⟩
              have HC1 := Lib.hid (show ∀ w', C w' → w'.cell? ⟨g, 0, none⟩ = some (.string q.p) ∧ w'.cell? ⟨g, 1, none⟩ = some (.int .i64 q.x) ∧ w'.cell? ⟨g, 2, none⟩ = some (.int .i64 q.y) ∧ w'.cell? ⟨gl, 0, none⟩ = some (.slice A n c) ∧ w'.cell? ⟨blk A, off A + j * 3, none⟩ = some (.string m.p) ∧ Below (W0.drew).heap.size (W0.drew) w' by rw [hC]; exact fun _ h => h)
              have HC2 := Lib.hid (show ∀ w', w'.cell? ⟨g, 0, none⟩ = some (.string q.p) ∧ w'.cell? ⟨g, 1, none⟩ = some (.int .i64 q.x) ∧ w'.cell? ⟨g, 2, none⟩ = some (.int .i64 q.y) ∧ w'.cell? ⟨gl, 0, none⟩ = some (.slice A n c) ∧ w'.cell? ⟨blk A, off A + j * 3, none⟩ = some (.string m.p) ∧ Below (W0.drew).heap.size (W0.drew) w' → C w' by rw [hC]; exact fun _ h => h)
              clear hC
              refine region_class C (by kernel_rfl) (by kernel_rfl) (HC2.out _ ⟨e0, e1, e2, e3, m0, Below.refl _ _⟩) ?_
              repeat (first
                | go_big_quiet_skip
                | (go_big_quiet_want; go_big_quiet_op; first
                    | go_big_quiet_on
                    | (apply Exists.intro; refine ⟨?_, ?_⟩; (rintro ⟨w', hw'⟩; with_reducible rfl); go_big_quiet_on)
                    | (apply Exists.intro; refine ⟨fun w' hw' => ?_, ?_⟩; (obtain ⟨k0, k1, k2, k3, k4, kb⟩ := HC1.out w' hw'; first
                        | (with_reducible rfl)
                        | (go_at_call 52; refine (implPath_any q.p _ hqz (HMX.out.belowS (below_step bw1 kb))).mono ?_; rw [HD.out]; rintro e w2 ⟨rfl, hb⟩; exact ⟨rfl, HC2.out _ ⟨cell_later hb k0, cell_later hb k1, cell_later hb k2, cell_later hb k3, cell_later hb k4, below_step kb hb⟩⟩)
                        | (go_at_call 53; refine (implContentValid_any q.x q.y _).mono ?_; rw [HB.out]; rintro e w2 ⟨rfl, hb⟩; exact ⟨rfl, HC2.out _ ⟨cell_later hb k0, cell_later hb k1, cell_later hb k2, cell_later hb k3, cell_later hb k4, below_step kb hb⟩⟩)
                        | (go_simp; with_reducible rfl)); go_big_quiet_on)))
              refine wpQuiet_nil ?_
              intro w3 hw3
              obtain ⟨k0, k1, k2, k3, k4, kb⟩ := HC1.out w3 hw3
              clear HC1 HC2 hw3
              have bw3 := below_step bw1 kb
              go_wp2_with fail
              go_ret
              exact Tells.no (fun h => HW.out (h.1 _ hlk)) bw3
            | true =>
              by_cases hx : q.x = 0
              · have HW := Lib.hid (okAt_no_self HQ.out (show ¬ okNod q from fun h => h.2.2 hx))
                have hx' : (q.x == 0) = true := by simpa using hx
                clear hx
                obtain ⟨C, hC⟩ : ∃ C : World → Prop, C = fun w' => w'.cell? ⟨g, 0, none⟩ = some (.string q.p) ∧ w'.cell? ⟨g, 1, none⟩ = some (.int .i64 q.x) ∧ w'.cell? ⟨g, 2, none⟩ = some (.int .i64 q.y) ∧ w'.cell? ⟨gl, 0, none⟩ = some (.slice A n c) ∧ w'.cell? ⟨blk A, off A + j * 3, none⟩ = some (.string m.p) ∧ Below (W0.drew).heap.size (W0.drew) w' := ⟨_, rfl⟩
                have HC1 := Lib.hid (show ∀ w', C w' → w'.cell? ⟨g, 0, none⟩ = some (.string q.p) ∧ w'.cell? ⟨g, 1, none⟩ = some (.int .i64 q.x) ∧ w'.cell? ⟨g, 2, none⟩ = some (.int .i64 q.y) ∧ w'.cell? ⟨gl, 0, none⟩ = some (.slice A n c) ∧ w'.cell? ⟨blk A, off A + j * 3, none⟩ = some (.string m.p) ∧ Below (W0.drew).heap.size (W0.drew) w' by rw [hC]; exact fun _ h => h)
                have HC2 := Lib.hid (show ∀ w', w'.cell? ⟨g, 0, none⟩ = some (.string q.p) ∧ w'.cell? ⟨g, 1, none⟩ = some (.int .i64 q.x) ∧ w'.cell? ⟨g, 2, none⟩ = some (.int .i64 q.y) ∧ w'.cell? ⟨gl, 0, none⟩ = some (.slice A n c) ∧ w'.cell? ⟨blk A, off A + j * 3, none⟩ = some (.string m.p) ∧ Below (W0.drew).heap.size (W0.drew) w' → C w' by rw [hC]; exact fun _ h => h)
                clear hC
                refine region_class C (by kernel_rfl) (by kernel_rfl) (HC2.out _ ⟨e0, e1, e2, e3, m0, Below.refl _ _⟩) ?_
                repeat (first
                  | go_big_quiet_skip
                  | (go_big_quiet_want; go_big_quiet_op; first
                      | go_big_quiet_on
                      | (apply Exists.intro; refine ⟨?_, ?_⟩; (rintro ⟨w', hw'⟩; with_reducible rfl); go_big_quiet_on)
                      | (apply Exists.intro; refine ⟨fun w' hw' => ?_, ?_⟩; (obtain ⟨k0, k1, k2, k3, k4, kb⟩ := HC1.out w' hw'; first
                          | (with_reducible rfl)
                          | (go_at_call 52; refine (implPath_any q.p _ hqz (HMX.out.belowS (below_step bw1 kb))).mono ?_; rw [HD.out]; rintro e w2 ⟨rfl, hb⟩; exact ⟨rfl, HC2.out _ ⟨cell_later hb k0, cell_later hb k1, cell_later hb k2, cell_later hb k3, cell_later hb k4, below_step kb hb⟩⟩)
                          | (go_at_call 53; refine (implContentValid_any q.x q.y _).mono ?_; rw [HB.out]; rintro e w2 ⟨rfl, hb⟩; exact ⟨rfl, HC2.out _ ⟨cell_later hb k0, cell_later hb k1, cell_later hb k2, cell_later hb k3, cell_later hb k4, below_step kb hb⟩⟩)
                          | (go_simp; with_reducible rfl)); go_big_quiet_on)))
                refine wpQuiet_nil ?_
                intro w3 hw3
                obtain ⟨k0, k1, k2, k3, k4, kb⟩ := HC1.out w3 hw3
                clear HC1 HC2 hw3
                have bw3 := below_step bw1 kb
                go_wp2_with fail
                go_ret
                exact Tells.no (fun h => HW.out (h.1 _ hlk)) bw3
              · have HND := Lib.hid (show okNod q from ⟨HDP.out, HB.out, hx⟩)
                have hx' : (q.x == 0) = false := by simpa using hx
                have HOK := Lib.hid (okAt_succ HQ.out HM.out HND.out HR.out)
                clear hx
                obtain ⟨C, hC⟩ : ∃ C : World → Prop, C = fun w' => w'.cell? ⟨g, 0, none⟩ = some (.string q.p) ∧ w'.cell? ⟨g, 1, none⟩ = some (.int .i64 q.x) ∧ w'.cell? ⟨g, 2, none⟩ = some (.int .i64 q.y) ∧ w'.cell? ⟨gl, 0, none⟩ = some (.slice A n c) ∧ w'.cell? ⟨blk A, off A + j * 3, none⟩ = some (.string m.p) ∧ Below (W0.drew).heap.size (W0.drew) w' := ⟨_, rfl⟩
                have HC1 := Lib.hid (show ∀ w', C w' → w'.cell? ⟨g, 0, none⟩ = some (.string q.p) ∧ w'.cell? ⟨g, 1, none⟩ = some (.int .i64 q.x) ∧ w'.cell? ⟨g, 2, none⟩ = some (.int .i64 q.y) ∧ w'.cell? ⟨gl, 0, none⟩ = some (.slice A n c) ∧ w'.cell? ⟨blk A, off A + j * 3, none⟩ = some (.string m.p) ∧ Below (W0.drew).heap.size (W0.drew) w' by rw [hC]; exact fun _ h => h)
                have HC2 := Lib.hid (show ∀ w', w'.cell? ⟨g, 0, none⟩ = some (.string q.p) ∧ w'.cell? ⟨g, 1, none⟩ = some (.int .i64 q.x) ∧ w'.cell? ⟨g, 2, none⟩ = some (.int .i64 q.y) ∧ w'.cell? ⟨gl, 0, none⟩ = some (.slice A n c) ∧ w'.cell? ⟨blk A, off A + j * 3, none⟩ = some (.string m.p) ∧ Below (W0.drew).heap.size (W0.drew) w' → C w' by rw [hC]; exact fun _ h => h)
                clear hC
                refine region_class C (by kernel_rfl) (by kernel_rfl) (HC2.out _ ⟨e0, e1, e2, e3, m0, Below.refl _ _⟩) ?_
                repeat (first
                  | go_big_quiet_skip
                  | (go_big_quiet_want; go_big_quiet_op; first
                      | go_big_quiet_on
                      | (apply Exists.intro; refine ⟨?_, ?_⟩; (rintro ⟨w', hw'⟩; with_reducible rfl); go_big_quiet_on)
                      | (apply Exists.intro; refine ⟨fun w' hw' => ?_, ?_⟩; (obtain ⟨k0, k1, k2, k3, k4, kb⟩ := HC1.out w' hw'; first
                          | (with_reducible rfl)
                          | (go_at_call 52; refine (implPath_any q.p _ hqz (HMX.out.belowS (below_step bw1 kb))).mono ?_; rw [HD.out]; rintro e w2 ⟨rfl, hb⟩; exact ⟨rfl, HC2.out _ ⟨cell_later hb k0, cell_later hb k1, cell_later hb k2, cell_later hb k3, cell_later hb k4, below_step kb hb⟩⟩)
                          | (go_at_call 53; refine (implContentValid_any q.x q.y _).mono ?_; rw [HB.out]; rintro e w2 ⟨rfl, hb⟩; exact ⟨rfl, HC2.out _ ⟨cell_later hb k0, cell_later hb k1, cell_later hb k2, cell_later hb k3, cell_later hb k4, below_step kb hb⟩⟩)
                          | (go_simp; with_reducible rfl)); go_big_quiet_on)))
                refine wpQuiet_nil ?_
                intro w3 hw3
                obtain ⟨k0, k1, k2, k3, k4, kb⟩ := HC1.out w3 hw3
                clear HC1 HC2 hw3
                have bw3 := below_step bw1 kb
                have G3 := G2.belowS kb
                clear e0 e1 e2 e3 G2 k0 k1 k2 k3
                go_wp2_with fail
                go_roundw
                case rel => exact ⟨j + 1 + 1, by go_num, by omega, Lib.hid (HN.out.next HOK.out), G3, bw3⟩
                case measure => simp [intOf]; omega
    · obtain rfl : n = k := by omega
      have hgl : gl < wr.heap.size := GB.lt
      have hcl := GB.cell 0
      simp only [List.getElem?_toArray, List.getElem?_cons_zero] at hcl
      by_cases h10 : n ≤ 10
      · have hall : ∀ q ∈ l, TestN 55 (.pointer (some ⟨gl, 0, none⟩)) (fun n => !decide ((getN l (parentL n.s)).1 = 1)) q wr := fun q hq => by
          obtain ⟨j, hj, rfl⟩ := List.getElem_of_mem hq
          exact dirTest_any A n c l gl _ wr hn HL.out (ha.belowS hbw) (HN.out j (by rw [← HL.out]; exact hj) _ (List.getElem?_eq_getElem hj)).1 hgl hcl
        have HALL := Lib.hid hall
        have h10' : decide ((n : Int) ≤ 10) = true := decide_eq_true (by omega)
        obtain ⟨r, hr⟩ : ∃ r, l.any (fun n => !decide ((getN l (parentL n.s)).1 = 1)) = r := ⟨_, rfl⟩
        have HR := Lib.hid hr
        clear hall hr
        go_wp2_with fail
        refine (containsN_any 55 (fun _ _ => rfl) (.pointer (some ⟨gl, 0, none⟩)) (fun n => !decide ((getN l (parentL n.s)).1 = 1)) A n c l _ (by omega) HL.out (ha.belowS hbw) HALL.out).mono ?_
        rw [HR.out]
        rintro e w1 ⟨rfl, hb1⟩
        have bw1 := below_step hbw hb1
        cases r with
        | false =>
          have HT := Lib.hid (show TreeP l from ⟨fun j hj => HN.out j (by rw [← HL.out]; exact hj), fun j hj n hn => by
            have h1 := List.any_eq_false.1 HR.out n (List.mem_of_getElem? hn)
            simpa using h1, by rw [HL.out]; exact h10⟩)
          go_wp2_with fail
          go_ret
          exact Tells.yes HT.out bw1
        | true =>
          have HT := Lib.hid (show ¬ TreeP l from fun h => by
            obtain ⟨n, hn, hp⟩ := List.any_eq_true.1 HR.out
            obtain ⟨j, hj, rfl⟩ := List.getElem_of_mem hn
            have := h.2.1 j hj _ (List.getElem?_eq_getElem hj)
            simp [this] at hp)
          go_wp2_with fail
          go_ret
          exact Tells.no HT.out bw1
      · have HT := Lib.hid (show ¬ TreeP l from fun h => h10 (by rw [← HL.out]; exact h.2.2))
        have h10' : decide ((n : Int) ≤ 10) = false := decide_eq_false (by omega)
        go_wp2_with fail
        go_ret
        exact Tells.no HT.out hbw
end Go.Proofs.YthcfjiapmigjiaaDoor
