/- What a path of a tree holds, by both texts; the search with a test. -/
import Derived.Test.YthcfjiapmigjiaaDoorTree
import Derived.Test.YthcfjiapmigjiaaDoorNodS
import Derived.Deep.DeepCutAuto
import Derived.Deep.RegionWith
import Derived.StillTailTactics
namespace Go.Proofs.YthcfjiapmigjiaaDoor
open Go.RowKit
set_option linter.unusedVariables false
set_option linter.unusedSimpArgs false
set_option maxRecDepth 20000

theorem blk2 {w : World} {g : Nat} {t : TypeId} {a b : Value} (h : Blk w g t #[a, b]) : w.cell? ⟨g, 0, none⟩ = some a ∧ w.cell? ⟨g, 1, none⟩ = some b := ⟨h.cell 0, h.cell 1⟩
theorem blk2f {w : World} {g : Nat} {t : TypeId} {a b : Value} (h : Blk w g t #[a, b]) : w.frozen? ⟨g, 0, none⟩ = false ∧ w.frozen? ⟨g, 1, none⟩ = false := ⟨h.frozen 0, h.frozen 1⟩
/-- The first part of a content. -/
theorem fieldX (a b : Value) (W : World) : (Instr.field 49 (.agg #[a, b]) 0).run Tryd.prog W = .ok a W := by kernel_rfl
/-- A content: what the path holds. -/
def GetOf (l : List Nod) (s : List UInt8) (w : World) (e : Ending) (w' : World) : Prop := ∃ x y : Int, e = .returned (.agg #[.int .i64 x, .int .i64 y]) ∧ getN l s = (x, y) ∧ Below w.heap.size w w'

set_option maxHeartbeats 2000000 in
theorem specGet_any (A : Option Addr) (n c : Nat) (l : List Nod) (s : ByteArray) (w : World) (hn : n ≤ 140737488355328) (hl : l.length = n) (ha : At encN 3 w A l) :
    Calls Tryd.prog 24 #[.slice A n c, .string s] w (GetOf l s.data.toList w) := by
  obtain ⟨i0, hi, hz0, hz1, hz2⟩ := info_parts infoN
  have HL := Lib.hid hl
  clear hl
  have R0 := Blk.new w 49 #[.int .i64 0, .int .i64 0]
  have bw0 := below_alloc (Below.refl w.heap.size w) (.cells #[.int .i64 0, .int .i64 0] 49)
  by_cases hr : s.data.toList = [47]
  · have HG := Lib.hid (show getN l s.data.toList = (1, 0) by rw [hr]; rfl)
    have hx : (s.toList == [47]) = true := by rw [toList_beq hr]; rfl
    clear hr
    go_enter Tryd.func24, Tryd.ntmps24
    go_wp2_with fail
    refine bodyPost_ret (v := .agg #[.int .i64 1, .int .i64 0]) (by simp [results, Tryd.results24, go_sem]) rfl ?_
    exact ⟨1, 0, rfl, HG.out, below_alloc (Below.refl _ _) _⟩
  have HR := Lib.hid hr
  have hx : (s.toList == [47]) = false := by rw [toList_beq rfl]; exact decide_eq_false hr
  clear hr
  obtain ⟨W0, hW0⟩ : ∃ W0, W0 = w.alloc (.cells #[.int .i64 0, .int .i64 0] 49) := ⟨_, rfl⟩
  obtain ⟨g, hg⟩ : ∃ g, w.heap.size = g := ⟨_, rfl⟩
  have hgw : w.heap.size ≤ g := by omega
  rw [← hW0, hg] at R0
  rw [← hW0] at bw0
  go_enter Tryd.func24, Tryd.ntmps24
  go_wp2_with fail
  rw [← hW0]
  try rw [hg]
  clear hW0 hx hg
  go_loopw [5] (fun i wr => ∃ k : Nat, i = .int .i64 k ∧ k ≤ n ∧ Hid (NoneN l k s.data.toList) ∧ Blk wr g 49 #[.int .i64 0, .int .i64 0] ∧ Below w.heap.size w wr) (fun i _ => n - (intOf i).toNat)
  case atStart => exact ⟨0, rfl, Nat.zero_le _, Lib.hid (NoneN.zero _ _), R0, bw0⟩
  case round =>
    clear R0 bw0
    obtain ⟨k, rfl, hk, HN, PB, hbw⟩ := hrel
    obtain ⟨f0, f1⟩ := blk2f PB
    obtain ⟨r0, r1⟩ := blk2 PB
    by_cases hlt : k < n
    · have hlk : k < l.length := by rw [HL.out]; exact hlt
      have hidx := fun W => run_index_any (c := c) Tryd.underlying27 hi hz1 (ha.addr (by rw [HL.out]; omega)) hlt W
      obtain ⟨q, hq⟩ : ∃ q, l[k] = q := ⟨_, rfl⟩
      have HQ := Lib.hid (show l[k]? = some q by rw [List.getElem?_eq_getElem hlk, hq])
      obtain ⟨c0, c1, c2⟩ := at3 (ha.belowS hbw) hlk hq
      clear hq
      by_cases he : q.p.data.toList = s.data.toList
      · have hx : (q.p.toList == s.toList) = true := by rw [toList_is he, toList_is rfl]; simp
        have HG := Lib.hid (getN_pos HR.out (HN.out.pos HQ.out he) HQ.out)
        clear he
        go_wp2_with fail
        obtain ⟨W2, hW2⟩ : ∃ W2, W2 = (wr.setCell ⟨g, 0, none⟩ (.int .i64 q.x)).setCell ⟨g, 1, none⟩ (.int .i64 q.y) := ⟨_, rfl⟩
        have R4 : Blk W2 g 49 #[.int .i64 q.x, .int .i64 q.y] := by rw [hW2]; exact ((PB.set_ 0 _).set_ 1 _)
        have bw4 : Below w.heap.size w W2 := by rw [hW2]; exact below_set (below_set hbw hgw _) hgw _
        rw [← hW2]
        clear hW2 r0 r1 f0 f1 c0 c1 c2
        obtain ⟨r0, r1⟩ := blk2 R4
        refine bodyPost_ret (v := .agg #[.int .i64 q.x, .int .i64 q.y]) (by simp [results, Tryd.results24, go_sem, r0, r1]) rfl ?_
        exact ⟨q.x, q.y, rfl, HG.out, bw4⟩
      · have hx : (q.p.toList == s.toList) = false := by rw [toList_is rfl, toList_is rfl]; simpa using he
        have HN2 := Lib.hid (HN.out.next HQ.out he)
        clear he
        go_wp2_with fail
        go_roundw
        case rel => exact ⟨k + 1, by go_num, by omega, HN2, PB, hbw⟩
        case measure => simp [intOf]; omega
    · obtain rfl : n = k := by omega
      have HG := Lib.hid (getN_none HR.out (HN.out.all HL.out))
      go_wp2_with fail
      obtain ⟨W2, hW2⟩ : ∃ W2, W2 = (wr.setCell ⟨g, 0, none⟩ (.int .i64 0)).setCell ⟨g, 1, none⟩ (.int .i64 0) := ⟨_, rfl⟩
      have R4 : Blk W2 g 49 #[.int .i64 0, .int .i64 0] := by rw [hW2]; exact ((PB.set_ 0 _).set_ 1 _)
      have bw4 : Below w.heap.size w W2 := by rw [hW2]; exact below_set (below_set hbw hgw _) hgw _
      rw [← hW2]
      clear hW2 r0 r1 f0 f1
      obtain ⟨r0, r1⟩ := blk2 R4
      refine bodyPost_ret (v := .agg #[.int .i64 0, .int .i64 0]) (by simp [results, Tryd.results24, go_sem, r0, r1]) rfl ?_
      exact ⟨0, 0, rfl, HG.out, bw4⟩

/-- Where a test holds first. -/
def idxI (p : Nod → Bool) (l : List Nod) : Int := match l.findIdx? p with
  | some k => (k : Int)
  | none => -1
theorem idxI_none {p : Nod → Bool} {l : List Nod} (h : l.all (fun n => !p n) = true) : idxI p l = -1 := by
  unfold idxI
  rw [List.findIdx?_eq_none_iff.2 fun n hn => by have := List.all_eq_true.1 h n hn; simpa using this]
theorem idxI_some {p : Nod → Bool} {l : List Nod} {k : Nat} (hk : k < l.length) (h : (l.take k).all (fun n => !p n) = true) (hp : p l[k] = true) : idxI p l = k := by
  unfold idxI
  rw [List.findIdx?_eq_some_iff_getElem.2 ⟨hk, hp, fun j hj => by
    have := List.all_eq_true.1 h l[j] (by rw [List.mem_take_iff_getElem]; exact ⟨j, by omega, rfl⟩)
    simpa using this⟩]
theorem idxI_any {p : Nod → Bool} {l : List Nod} : decide (0 ≤ idxI p l) = l.any p := by
  unfold idxI
  cases h : l.findIdx? p with
  | none =>
    have := List.findIdx?_eq_none_iff.1 h
    have e : l.any p = false := by rw [List.any_eq_false]; intro n hn; rw [this n hn]; simp
    rw [e]; rfl
  | some k =>
    obtain ⟨hk, hp, _⟩ := List.findIdx?_eq_some_iff_getElem.1 h
    have e : l.any p = true := List.any_eq_true.2 ⟨_, List.getElem_mem hk, hp⟩
    rw [e]; simp
theorem idxI_pos (l : List Nod) (s : List UInt8) : idxI (fun n => decide (n.s = s)) l = posI l s := rfl
theorem takeN_all {p : Nod → Bool} {l : List Nod} {k : Nat} (hk : k < l.length) (h : (l.take k).all p = true) (h1 : p l[k] = true) : (l.take (k + 1)).all p = true := by
  rw [take_snoc' l k hk, List.all_append, h]; simp [h1]
/-- A function value of one captured variable that answers a test. -/
def TestN (g : Nat) (v : Value) (p : Nod → Bool) (q : Nod) (w : World) : Prop :=
  ∀ wr, Below w.heap.size w wr → Calls Tryd.prog g #[.agg #[.string q.p, .int .i64 q.x, .int .i64 q.y], v] wr fun e w' => e = .returned (.bool (p q)) ∧ Below wr.heap.size wr w'

set_option maxHeartbeats 2000000 in
theorem indexN_any (g : Nat) (eg : ∀ args w, (callFunc g args).run Tryd.prog w = .ok (.enter g args) w) (v : Value) (p : Nod → Bool) (A : Option Addr) (n c : Nat) (l : List Nod) (w : World) (hn : n ≤ 140737488355328) (hl : l.length = n) (ha : At encN 3 w A l) (hg : ∀ q ∈ l, TestN g v p q w) :
    Calls Tryd.prog 72 #[.slice A n c, .func (.func g) #[] #[v]] w fun e w' => e = .returned (.int .i64 (idxI p l)) ∧ Below w.heap.size w w' := by
  obtain ⟨i0, hi, hz0, hz1, hz2⟩ := info_parts infoN
  have HL := Lib.hid hl
  clear hl
  go_enter Tryd.func72, Tryd.ntmps72
  go_wp2_with fail
  go_loopw [8] (fun i wr => ∃ k : Nat, i = .int .i64 k ∧ k ≤ n ∧ Hid ((l.take k).all (fun n => !p n) = true) ∧ Below w.heap.size w wr) (fun i _ => n - (intOf i).toNat)
  case atStart => exact ⟨0, rfl, Nat.zero_le _, Lib.hid rfl, Below.refl _ _⟩
  case round =>
    obtain ⟨k, rfl, hk, HA, hbw⟩ := hrel
    by_cases hlt : k < n
    · have hlk : k < l.length := by rw [HL.out]; exact hlt
      have hidx := fun W => run_index_any (c := c) Tryd.underlying27 hi hz1 (ha.addr (by rw [HL.out]; omega)) hlt W
      obtain ⟨q, hq⟩ : ∃ q, l[k] = q := ⟨_, rfl⟩
      have HT := Lib.hid (hg q (hq ▸ List.getElem_mem _))
      obtain ⟨c0, c1, c2⟩ := at3 (ha.belowS hbw) hlk hq
      obtain ⟨b, hb⟩ : ∃ b, p q = b := ⟨_, rfl⟩
      have HB := Lib.hid hb
      have HQ := Lib.hid hq
      clear hq hb
      go_wp2_with fail
      refine (HT.out _ hbw).mono ?_
      rw [HB.out]
      rintro e w1 ⟨rfl, hb1⟩
      have bw1 := below_step hbw hb1
      cases b with
      | false =>
        have HN := Lib.hid (takeN_all (p := fun n => !p n) hlk HA.out (by rw [HQ.out, HB.out]; rfl))
        go_wp2_with fail
        go_roundw
        case rel => exact ⟨k + 1, by go_num, by omega, HN, bw1⟩
        case measure => simp [intOf]; omega
      | true =>
        have HN := Lib.hid (idxI_some hlk HA.out (by rw [HQ.out, HB.out]))
        go_wp2_with fail
        go_ret
        exact ⟨ret_int HN.out.symm, bw1⟩
    · obtain rfl : n = k := by omega
      have hall := HA.out
      rw [List.take_of_length_le (by rw [HL.out]; exact Nat.le_refl _)] at hall
      have HN := Lib.hid (idxI_none hall)
      clear hall
      go_wp2_with fail
      go_ret
      exact ⟨ret_int HN.out.symm, hbw⟩

theorem containsN_any (g : Nat) (eg : ∀ args w, (callFunc g args).run Tryd.prog w = .ok (.enter g args) w) (v : Value) (p : Nod → Bool) (A : Option Addr) (n c : Nat) (l : List Nod) (w : World) (hn : n ≤ 140737488355328) (hl : l.length = n) (ha : At encN 3 w A l) (hg : ∀ q ∈ l, TestN g v p q w) :
    Calls Tryd.prog 54 #[.slice A n c, .func (.func g) #[] #[v]] w fun e w' => e = .returned (.bool (l.any p)) ∧ Below w.heap.size w w' := by
  have HI := Lib.hid (idxI_any (p := p) (l := l))
  obtain ⟨z, hz⟩ : ∃ z, idxI p l = z := ⟨_, rfl⟩
  have HZ := Lib.hid hz
  rw [hz] at HI
  have HG := Lib.hid hg
  have HL := Lib.hid hl
  clear hz hg hl
  go_enter Tryd.func54, Tryd.ntmps54
  go_wp2_with fail
  refine (indexN_any g eg v p A n c l _ hn HL.out ha HG.out).mono ?_
  rw [HZ.out]
  rintro e w1 ⟨rfl, hb1⟩
  go_wp2_with fail
  go_ret
  exact ⟨ret_bool HI.out, hb1⟩

theorem findTest_any (g : Nat) (s : ByteArray) (q : Nod) (w : World) (hg : g < w.heap.size) (hc : w.cell? ⟨g, 0, none⟩ = some (.string s)) :
    TestN 73 (.pointer (some ⟨g, 0, none⟩)) (fun n => decide (n.s = s.data.toList)) q w := by
  intro wr hb
  have hcr : wr.cell? ⟨g, 0, none⟩ = some (.string s) := (hb.cell (p := ⟨g, 0, none⟩) hg).trans hc
  have HE := Lib.hid (show (q.p.toList == s.toList) = decide (q.s = s.data.toList) by rw [toList_is rfl, toList_is rfl]; unfold Nod.s; rw [Bool.eq_iff_iff]; simp)
  clear hc hb
  have hne : wr.heap.size ≠ g ∨ True := .inr trivial
  have hcr2 : (wr.alloc (.cells #[.string q.p, .int .i64 q.x, .int .i64 q.y] 55)).cell? ⟨g, 0, none⟩ = some (.string s) := cell_later ((Below.refl wr.heap.size wr).alloc (Nat.le_refl _) _) hcr
  go_enter Tryd.func73, Tryd.ntmps73
  go_wp2_with fail
  go_ret
  exact ⟨ret_bool HE.out, below_alloc (Below.refl _ _) _⟩

theorem implFind_any (A : Option Addr) (n c : Nat) (l : List Nod) (s : ByteArray) (w : World) (hn : n ≤ 140737488355328) (hl : l.length = n) (ha : At encN 3 w A l) :
    Calls Tryd.prog 57 #[.slice A n c, .string s] w fun e w' => e = .returned (.int .i64 (posI l s.data.toList)) ∧ Below w.heap.size w w' := by
  have bw0 := below_alloc (Below.refl w.heap.size w) (.cells #[.string s] 9)
  have P0 := Blk.new w 9 #[.string s]
  have hall : ∀ q ∈ l, TestN 73 (.pointer (some ⟨w.heap.size, 0, none⟩)) (fun n => decide (n.s = s.data.toList)) q (w.alloc (.cells #[.string s] 9)) := fun q _ => findTest_any w.heap.size s q _ P0.lt (P0.cell 0)
  have HALL := Lib.hid hall
  clear hall P0
  go_enter Tryd.func57, Tryd.ntmps57
  go_wp2_with fail
  refine (indexN_any 73 (fun _ _ => rfl) (.pointer (some ⟨w.heap.size, 0, none⟩)) (fun n => decide (n.s = s.data.toList)) A n c l _ hn hl (ha.belowS bw0) HALL.out).mono ?_
  rw [idxI_pos]
  rintro e w1 ⟨rfl, hb1⟩
  have bw1 := below_step bw0 hb1
  go_wp2_with fail
  go_ret
  exact ⟨rfl, bw1⟩

set_option maxHeartbeats 2000000 in
theorem implGet_any (A : Option Addr) (n c : Nat) (l : List Nod) (s : ByteArray) (w : World) (hn : n ≤ 140737488355328) (hl : l.length = n) (ha : At encN 3 w A l) :
    Calls Tryd.prog 29 #[.slice A n c, .string s] w (GetOf l s.data.toList w) := by
  obtain ⟨i0, hi, hz0, hz1, hz2⟩ := info_parts infoN
  have HL := Lib.hid hl
  clear hl
  have R0 := Blk.new w 49 #[.int .i64 0, .int .i64 0]
  have bw0 := below_alloc (Below.refl w.heap.size w) (.cells #[.int .i64 0, .int .i64 0] 49)
  by_cases hr : s.data.toList = [47]
  · have HG := Lib.hid (show getN l s.data.toList = (1, 0) by rw [hr]; rfl)
    have hx : (s.toList == [47]) = true := by rw [toList_beq hr]; rfl
    clear hr
    go_enter Tryd.func29, Tryd.ntmps29
    go_wp2_with fail
    refine bodyPost_ret (v := .agg #[.int .i64 1, .int .i64 0]) (by simp [results, Tryd.results29, go_sem]) rfl ?_
    exact ⟨1, 0, rfl, HG.out, below_alloc (Below.refl _ _) _⟩
  have HR := Lib.hid hr
  have hx : (s.toList == [47]) = false := by rw [toList_beq rfl]; exact decide_eq_false hr
  clear hr
  obtain ⟨P, hP⟩ : ∃ P, posN l s.data.toList = P := ⟨_, rfl⟩
  have HP := Lib.hid hP
  obtain ⟨z, hz⟩ : ∃ z, posI l s.data.toList = z := ⟨_, rfl⟩
  have HZ := Lib.hid hz
  have hzv := hz
  unfold posI at hzv
  rw [hP] at hzv
  clear hz hP
  obtain ⟨W0, hW0⟩ : ∃ W0, W0 = w.alloc (.cells #[.int .i64 0, .int .i64 0] 49) := ⟨_, rfl⟩
  obtain ⟨g, hg⟩ : ∃ g, w.heap.size = g := ⟨_, rfl⟩
  have hgw : w.heap.size ≤ g := by omega
  rw [← hW0, hg] at R0
  rw [← hW0] at bw0
  have HZV := Lib.hid hzv
  clear hzv
  go_enter Tryd.func29, Tryd.ntmps29
  go_wp2_with fail
  rw [← hW0]
  try rw [hg]
  refine (implFind_any A n c l s _ hn HL.out (ha.belowS bw0)).mono ?_
  rw [HZ.out]
  rintro e w1 ⟨rfl, hb1⟩
  have bw1 := below_step bw0 hb1
  have PB := R0.belowS hb1
  obtain ⟨f0, f1⟩ := blk2f PB
  obtain ⟨r0, r1⟩ := blk2 PB
  clear hW0 hx hg R0 bw0
  have hzv := HZV.out
  cases P with
  | none =>
    subst hzv
    have HG := Lib.hid (getN_none HR.out HP.out)
    go_wp2_with fail
    obtain ⟨W2, hW2⟩ : ∃ W2, W2 = (w1.setCell ⟨g, 0, none⟩ (.int .i64 0)).setCell ⟨g, 1, none⟩ (.int .i64 0) := ⟨_, rfl⟩
    have R4 : Blk W2 g 49 #[.int .i64 0, .int .i64 0] := by rw [hW2]; exact ((PB.set_ 0 _).set_ 1 _)
    have bw4 : Below w.heap.size w W2 := by rw [hW2]; exact below_set (below_set bw1 hgw _) hgw _
    rw [← hW2]
    clear hW2 r0 r1 f0 f1
    obtain ⟨r0, r1⟩ := blk2 R4
    refine bodyPost_ret (v := .agg #[.int .i64 0, .int .i64 0]) (by simp [results, Tryd.results29, go_sem, r0, r1]) rfl ?_
    exact ⟨0, 0, rfl, HG.out, bw4⟩
  | some k =>
    have hzv : (k : Int) = z := hzv
    subst hzv
    obtain ⟨q, hq, _⟩ := posN_get HP.out
    have HG := Lib.hid (getN_pos HR.out HP.out hq)
    obtain ⟨hlk, hq'⟩ := List.getElem?_eq_some_iff.1 hq
    have hlt : k < n := by rw [← HL.out]; exact hlk
    have hidx := fun W => run_index_any (c := c) Tryd.underlying27 hi hz1 (ha.addr (by omega)) hlt W
    obtain ⟨c0, c1, c2⟩ := at3 (ha.belowS bw1) hlk hq'
    clear hq hq' hlk
    go_wp2_with fail
    obtain ⟨W2, hW2⟩ : ∃ W2, W2 = (w1.setCell ⟨g, 0, none⟩ (.int .i64 q.x)).setCell ⟨g, 1, none⟩ (.int .i64 q.y) := ⟨_, rfl⟩
    have R4 : Blk W2 g 49 #[.int .i64 q.x, .int .i64 q.y] := by rw [hW2]; exact ((PB.set_ 0 _).set_ 1 _)
    have bw4 : Below w.heap.size w W2 := by rw [hW2]; exact below_set (below_set bw1 hgw _) hgw _
    rw [← hW2]
    clear hW2 r0 r1 f0 f1 c0 c1 c2
    obtain ⟨r0, r1⟩ := blk2 R4
    refine bodyPost_ret (v := .agg #[.int .i64 q.x, .int .i64 q.y]) (by simp [results, Tryd.results29, go_sem, r0, r1]) rfl ?_
    exact ⟨q.x, q.y, rfl, HG.out, bw4⟩
end Go.Proofs.YthcfjiapmigjiaaDoor
