/- The commands that lead back, by both texts. -/
import Derived.Test.YtlhhplhciiobfaaDoorBack
import Derived.Test.YtlhhplhciiobfaaDoorUndo
import Derived.Test.YtlhhplhciiobfaaDoorLogV
import Derived.Test.YtlhhplhciiobfaaDoorOut
import Derived.Shelf.RegionOpen
namespace Go.Proofs.YtlhhplhciiobfaaDoor
open Go.RowKit Go.Shelf
set_option linter.unusedVariables false
set_option linter.unusedSimpArgs false
set_option maxRecDepth 20000

def undoC (q : Cmd) : Cmd := ⟨(undoR q.p q.x q.y q.z q.u).1, (undoR q.p q.x q.y q.z q.u).2.1, (undoR q.p q.x q.y q.z q.u).2.2.1, (undoR q.p q.x q.y q.z q.u).2.2.2.1, (undoR q.p q.x q.y q.z q.u).2.2.2.2⟩
theorem undoC_of {q : Cmd} {t : ByteArray} {a b c d : Int} (h : undoR q.p q.x q.y q.z q.u = (t, a, b, c, d)) : undoC q = ⟨t, a, b, c, d⟩ := by unfold undoC; rw [h]
def UndoR (l : List Cmd) (ys : List Cmd) : Prop := okLog l = true ∧ ys = l.reverse.map undoC ∨ okLog l = false ∧ ys = []
theorem UndoR.same {l : List Cmd} {a b : List Cmd} (h : UndoR l a) (k : UndoR l b) : a = b := by
  rcases h with ⟨h, rfl⟩ | ⟨h, rfl⟩ <;> rcases k with ⟨k, rfl⟩ | ⟨k, rfl⟩
  · rfl
  · rw [h] at k; cases k
  · rw [h] at k; cases k
  · rfl
theorem UndoR.len {l : List Cmd} {a : List Cmd} (h : UndoR l a) : a.length ≤ l.length := by
  rcases h with ⟨_, rfl⟩ | ⟨_, rfl⟩
  · simp
  · exact Nat.zero_le _
theorem rev_take {l : List Cmd} {k m : Nat} {q : Cmd} (hk : k < l.length) (hm : m + k + 1 = l.length) (hq : l[m]? = some q) : l.reverse.take (k + 1) = l.reverse.take k ++ [q] := by
  have hk' : k < l.reverse.length := by simpa using hk
  rw [List.take_succ_eq_append_getElem hk']
  congr 2
  rw [List.getElem_reverse]
  obtain ⟨hm', rfl⟩ := List.getElem?_eq_some_iff.1 hq
  congr 1
  omega

set_option maxHeartbeats 2000000 in
theorem specLogUndo_any (A : Option Addr) (n c : Nat) (l : List Cmd) (w : World) (hn : n ≤ 1048576) (hl : l.length = n) (ha : At encK 5 w A l) (hz : ∀ q ∈ l, q.p.size ≤ 1048576) :
    Calls Tryd.prog 47 #[.slice A n c] w (OutR encK 5 35 (UndoR l) w) := by
  obtain ⟨k0, hki, hkz0, hkz1, hkz2⟩ := info_parts infoK
  have HL := Lib.hid hl
  obtain ⟨ok, hok⟩ : ∃ ok, okLog l = ok := ⟨_, rfl⟩
  have HOK := Lib.hid hok
  clear hl hok
  go_enter Tryd.func47, Tryd.ntmps47
  go_wp2_with fail
  go_loopw [3, 4] (fun v i wr => ∃ (k : Nat) (z : Int) (ys : List Cmd), k ≤ n ∧ z + k + 1 = n ∧ i = .int .i64 z ∧ ys.length ≤ k ∧ Hid ((0 < k → ok = true) ∧ ys = (l.reverse.take k).map undoC) ∧ wr.ownsRow w.heap.size 35 5 v ys.length (ys.flatMap encK) ∧ Below w.heap.size w wr) (fun _ i _ => (intOf i + 1).toNat)
  case atStart => exact ⟨0, (n : Int) - 1, [], Nat.zero_le _, by omega, by first | rfl | go_num, Nat.le_refl _, Lib.hid ⟨fun h => by omega, by simp⟩, World.ownsRow_lit (base := w.heap.size) (e := 35) (size := 5) w #[] 0 (Nat.le_refl _) (by decide) rfl, below_alloc (Below.refl _ _) _⟩
  case round =>
    obtain ⟨k, z, ys, hk, hzk, rfl, hys, HY, ho, hbw⟩ := hrel
    by_cases hlt : k < n
    · obtain ⟨m, rfl⟩ : ∃ m : Nat, z = m := ⟨z.toNat, by omega⟩
      have hmz : m < l.length := by rw [HL.out]; omega
      have hidx := fun W => run_index_any (c := c) Tryd.underlying43 hki hkz1 (ha.addr (by omega)) (show m < n by omega) W
      obtain ⟨q, hq⟩ : ∃ q, l[m] = q := ⟨_, rfl⟩
      have HQ := Lib.hid (show l[m]? = some q by rw [List.getElem?_eq_getElem hmz, hq])
      have hqz := hz q (hq ▸ List.getElem_mem _)
      have HQ2 := Lib.hid hq
      clear hq
      go_wp2_with fail
      refine (specLogValid_any A n c l _ (by omega) HL.out (ha.belowS hbw) hz).mono ?_
      rw [HOK.out]
      rintro e w1 ⟨rfl, hb1⟩
      have bw1 := below_step hbw hb1
      have ho1 := own_belowS ho hb1
      cases ok with
      | false =>
        have HN := Lib.hid (show UndoR l ys from .inr ⟨HOK.out, by
          rcases Nat.eq_zero_or_pos k with h0 | h0
          · rw [HY.out.2, h0]; rfl
          · have := HY.out.1 h0; cases this⟩)
        go_wp2_with fail
        go_ret
        exact OutR.of rfl HN.out ho1 bw1
      | true =>
        obtain ⟨c0, c1, c2, c3, c4⟩ := at5 (ha.belowS bw1) hmz HQ2.out
        clear ho
        go_wp2_with fail
        refine (specUndo_any q.p q.x q.y q.z q.u _ hqz).mono ?_
        rintro e w2 ⟨t, a, b, c', d, rfl, hu, hb2⟩
        have bw2 := below_step bw1 hb2
        have ho2 := own_belowS ho1 hb2
        have hk1 : k < l.length := by have := HL.out; omega
        have hk2 : m + k + 1 = l.length := by have := HL.out; omega
        have HN := Lib.hid (show ys ++ [⟨t, a, b, c', d⟩] = (l.reverse.take (k + 1)).map undoC by rw [rev_take hk1 hk2 HQ.out, List.map_append, ← HY.out.2]; show _ = _ ++ [undoC q]; rw [undoC_of hu])
        have hoP := ho2.alloc (.cells #[.string t, .int .i64 a, .int .i64 b, .int .i64 c', .int .i64 d] 35)
        have hnP := at_new (enc := encK) w2 encK_len [⟨t, a, b, c', d⟩] 35 #[.string t, .int .i64 a, .int .i64 b, .int .i64 c', .int .i64 d] rfl (by unfold maxLen; simp)
        have hsw := bw2.size
        clear hk1 hk2 hu c0 c1 c2 c3 c4 ho1
        go_wp2_with (at_builtin; refine wpList_append_at _ rfl _ _ 43 rfl w.heap.size 35 k0 (.agg #[.string ByteArray.empty, .int .i64 0, .int .i64 0, .int .i64 0, .int .i64 0]) 5 48 Tryd.underlying43 hki hkz0 hkz1 hkz2 rfl (by decide) _ ys.length _ rfl hoP encK_len encK_one _ 1 1 [⟨t, a, b, c', d⟩] rfl rfl hnP (by unfold maxLen; omega) (by omega) (by rw [World.size_alloc]; omega) ?_; intro v3 w3 ho3 hg3 hv3)
        go_roundw
        case rel => exact ⟨k + 1, (m : Int) - 1, ys ++ [⟨t, a, b, c', d⟩], by omega, by omega, by first | rfl | go_num, by simp; omega, Lib.hid ⟨fun _ => (by first | rfl | trivial), HN.out⟩, by rw [List.length_append, List.flatMap_append]; exact ho3, below_app (w := w) (below_alloc bw2 _) hg3 (own_ge ho2)⟩
        case measure => simp [intOf] <;> omega
    · obtain rfl : k = n := by omega
      obtain rfl : z = -1 := by omega
      have HN := Lib.hid (show UndoR l ys from by
        have hall : l.reverse.take k = l.reverse := List.take_of_length_le (by rw [List.length_reverse, HL.out]; exact Nat.le_refl _)
        cases ok with
        | true => exact .inl ⟨HOK.out, by rw [HY.out.2, hall]⟩
        | false =>
          rcases Nat.eq_zero_or_pos k with h0 | h0
          · exact .inr ⟨HOK.out, by rw [HY.out.2, h0]; rfl⟩
          · have := HY.out.1 h0; cases this)
      go_wp2_with fail
      go_ret
      exact OutR.of rfl HN.out ho hbw

section
variable {F : Fence} {n : Nat} {P : Program}
theorem wpIn_append_at {o : Oper} {a : Act} {w : World} {K : Act → World → Prop} {Q : Exit → Act → World → Prop} (s x : Operand) (t : TypeId)
    (ho : o.op = .call { callee := .builtin .append, args := #[s, x], argTypes := #[t, t] })
    (base : Nat) (e : TypeId) (i : TypeInfo) (z : Value) (k bytes : Nat) (ht : P.underlying t = some (.slice e)) (hi : P.info? e = some i) (hz : i.zero = some z)
    (hsize : i.size = k) (hby : i.bytes = bytes) (hzs : z.cells.size = k) (hsz : 0 < k)
    (v : Value) (nn : Nat) (xs : List Value) (hs : a.eval s = v) (hown : w.ownsRow base e k v nn xs)
    {α : Type} {enc : α → List Value} (hk : ∀ x, (enc x).length = k) (h1 : ∀ x, ∀ u ∈ enc x, u.oneCell' = true) (A : Option Addr) (m c : Nat) (ys : List α) (hx : a.eval x = .slice A m c) (hm : ys.length = m) (hr : At enc k w A ys)
    (h63 : nn + m ≤ maxLen) (hbytes : (nn + m) * bytes ≤ 140737488355328) (hbase : base ≤ w.heap.size)
    (h : ∀ v' w', w'.ownsRow base e k v' (nn + m) (xs ++ ys.flatMap enc) → w.grownBy w' v.ownBlock → K (a.put o.dst v') w') : o.wpIn F n P a w K Q := by
  obtain ⟨v', w', hrun, h2, h3, h4⟩ := run_append_at (P := P) w base t o.type e i z k bytes ht hi hz hsize hby hzs hsz v nn xs hown hk h1 A m c ys hm hr h63 hbytes hbase
  unfold Oper.wpIn
  refine ⟨?_, ?_⟩
  · simp [Oper.about, ho, resolve, Target.leads, Sem.run_pure]
  · rw [Oper.semAt_plain F _ _ (by rw [ho]; intro c hc'; cases hc')]
    simp [execOp, ho, resolve, invoke, builtin, hs, hx, hrun, Result.andThen]
    exact h v' w' h2 h3
theorem step_append_in {ops : Array Oper} {o : Oper} {a : Act} {w : World} {K : Act → World → Prop} {Q : Exit → Act → World → Prop} {E : Prop} (hgd : o.guard = none) (s x : Operand) (t : TypeId)
    (ho : o.op = .call { callee := .builtin .append, args := #[s, x], argTypes := #[t, t] })
    (base : Nat) (e : TypeId) (i : TypeInfo) (z : Value) (k bytes : Nat) (ht : P.underlying t = some (.slice e)) (hi : P.info? e = some i) (hz : i.zero = some z)
    (hsize : i.size = k) (hby : i.bytes = bytes) (hzs : z.cells.size = k) (hsz : 0 < k)
    (v : Value) (nn : Nat) (xs : List Value) (hs : a.eval s = v) (hown : w.ownsRow base e k v nn xs)
    {α : Type} {enc : α → List Value} (hk : ∀ x, (enc x).length = k) (h1 : ∀ x, ∀ u ∈ enc x, u.oneCell' = true) (A : Option Addr) (m c : Nat) (ys : List α) (hx : a.eval x = .slice A m c) (hm : ys.length = m) (hr : At enc k w A ys)
    (h63 : nn + m ≤ maxLen) (hbytes : (nn + m) * bytes ≤ 140737488355328) (hbase : base ≤ w.heap.size)
    (h : ∀ v' w', w'.ownsRow base e k v' (nn + m) (xs ++ ys.flatMap enc) → w.grownBy w' v.ownBlock → K (a.put o.dst v') w') :
    if Region.wanted o (yielded ops a.tmps) = true then o.wpIn F n P a w K Q else E := by
  have hw : Region.wanted o (yielded ops a.tmps) = true := by simp [Region.wanted, hgd]
  rw [if_pos hw]
  exact wpIn_append_at s x t ho base e i z k bytes ht hi hz hsize hby hzs hsz v nn xs hs hown hk h1 A m c ys hx hm hr h63 hbytes hbase h
end
theorem keeps_below {W W' : World} (h : Below W.heap.size W W') : KeepsOthers W W' := ⟨h.size, fun k o hk _ => (h.block k (Array.getElem?_eq_some_iff.1 hk).1).trans hk⟩
theorem blk_ownF {α : Type} {B : Nat} {t : TypeId} {X Y : World} {row : Option Nat} {Bx : Nat} {cs : Array Value} (h : Blk X Bx t cs) (hg : X.grownBy Y row) (hr : ∀ r, row = some r → B ≤ r ∧ ∃ o : Obj, X.heap[r]? = some o ∧ o.isCells = false) : Blk Y Bx t cs :=
  (hg.block Bx h.lt (fun e' => by obtain ⟨_, o, ho, hc⟩ := hr Bx e'.symm; rw [show X.heap[Bx]? = _ from h] at ho; cases ho; cases hc)).trans h
theorem own_ownF {B : Nat} {X Y : World} {row : Option Nat} {base : Nat} {e : TypeId} {size : Nat} {v : Value} {k : Nat} {xs : List Value} (h : X.ownsRow base e size v k xs) (hg : X.grownBy Y row) (hr : ∀ r, row = some r → B ≤ r ∧ ∃ o : Obj, X.heap[r]? = some o ∧ o.isCells = false) : Y.ownsRow base e size v k xs := by
  refine h.kept hg ?_
  rcases h.2 with ⟨rfl, _⟩ | ⟨g, cap, cur, rfl, _, hgb, _⟩
  · exact .inl rfl
  · refine .inr fun e' => ?_
    obtain ⟨_, o, ho, hc⟩ := hr g (by simpa [Value.ownBlock] using e'.symm)
    rw [hgb] at ho; cases ho; cases hc
/-- Between two rounds. -/
def UndoI (w : World) (g0 : Nat) (A : Option Addr) (n c : Nat) (pre : List (Nat × CmdS)) (W : World) : Prop :=
  ((∃ v, Boxed W g0 43 v ∧ W.ownsRow w.heap.size 35 5 v pre.length ((pre.map fun x => undoC x.2.1).flatMap encK) ∧ True) ∧ Boxed W (g0 + 1) 43 (.slice A n c)) ∧ Below w.heap.size w W
def UndoAx (g0 : Nat) (A : Option Addr) (n c : Nat) (x : Nat × CmdS) (a' : Act) (W : World) : Prop :=
  ∃ Bx, g0 + 1 < Bx ∧ Blk W Bx 35 #[.string x.2.1.p, .int .i64 x.2.1.x, .int .i64 x.2.1.y, .int .i64 x.2.1.z, .int .i64 x.2.1.u] ∧ a' = { tmps := #[.slice A n c, undef, .slice none 0 0, .pointer (some ⟨g0, 0, none⟩), undef, .pointer (some ⟨Bx, 0, none⟩), .slice A n c, .bool true, .bool false, .slice A n c, .func (.func 122) #[] #[.pointer (some ⟨g0 + 1, 0, none⟩)], .int .i64 (x.1 : Int), .agg #[.string x.2.1.p, .int .i64 x.2.1.x, .int .i64 x.2.1.y, .int .i64 x.2.1.z, .int .i64 x.2.1.u], undef, undef, undef, undef, undef, undef], defers := [] }
theorem undoI_own {w : World} {g0 : Nat} {A : Option Addr} {n c B : Nat} (hB : w.heap.size ≤ B) : OwnFrom B (UndoI w g0 A n c) := by
  intro s X Y row hs hg hr
  obtain ⟨⟨⟨v, hv, hrow, -⟩, bN1⟩, hB1⟩ := hs
  exact ⟨⟨⟨v, blk_ownF (α := Unit) hv hg hr, own_ownF hrow hg hr, trivial⟩, blk_ownF (α := Unit) bN1 hg hr⟩, hB1.grown hg (Nat.le_trans (Nat.le_refl _) hB1.size) (fun k e => Nat.le_trans hB (hr k e).1)⟩
theorem undoAx_own {g0 : Nat} {A : Option Addr} {n c B : Nat} (x : Nat × CmdS) (a' : Act) : OwnFrom B (fun (_ : Unit) W => UndoAx g0 A n c x a' W) := by
  intro s X Y row hs hg hr
  obtain ⟨Bx, h1, h2, h3⟩ := hs
  exact ⟨Bx, h1, blk_ownF (α := Unit) h2 hg hr, h3⟩

attribute [local go_sem] Oper.semAt_some
set_option maxRecDepth 100000 in
set_option maxHeartbeats 2000000 in
theorem implLogUndo_any (A : Option Addr) (n c : Nat) (l : List Cmd) (w : World) (hn : n ≤ 1048576) (hl : l.length = n) (ha : At encK 5 w A l) (hz : ∀ q ∈ l, q.p.size ≤ 1048576) (hm : MaxAt w) :
    Calls Tryd.prog 48 #[.slice A n c] w (OutR encK 5 35 (UndoR l) w) := by
  obtain ⟨k0, hki, hkz0, hkz1, hkz2⟩ := info_parts infoK
  have HL := Lib.hid hl
  have HMX := Lib.hid hm
  obtain ⟨ok, hok⟩ : ∃ ok, okLog l = ok := ⟨_, rfl⟩
  have HOK := Lib.hid hok
  clear hl hok hm
  refine (callsIn_wide (n := 8)).1 ?_
  refine callsIn_of_wp_marks Tryd.func48 rfl trivial ?_ rfl
  simp only [Tryd.ntmps48, List.size_toArray, List.length_cons, List.length_nil, Nat.reduceAdd, Nat.reduceSub, Array.replicate_succ, Array.replicate_zero, List.push_toArray, List.append_toArray, List.nil_append, List.cons_append]
  cases ok with
  | false =>
    have HN := Lib.hid (show UndoR l [] from .inr ⟨HOK.out, rfl⟩)
    gi_wp2_with (refine ⟨trivial, ?_⟩; gi_at_call 62; refine (callsIn_wide.2 (implLogValid_any A n c l _ (by omega) HL.out ha hz HMX.out)).mono ?_; rw [HOK.out]; rintro e w1 ⟨rfl, hb1⟩)
    exact ⟨_, results_tmp rfl _ _ _, OutR.nil HN.out hb1⟩
  | true =>
    gi_wp2_with (first
      | (refine ⟨trivial, ?_⟩; gi_at_call 62; refine (callsIn_wide.2 (implLogValid_any A n c l _ (by omega) HL.out ha hz HMX.out)).mono ?_; rw [HOK.out]; rintro e w1 ⟨rfl, hb1⟩)
      | (refine ⟨trivial, ?_⟩; gi_at_call 92; refine (backK_in Fence.wide _ trivial rfl A n c _).mono ?_; rintro e w2 ⟨rfl, rfl⟩))
    have bO := (Boxed.new w1 43 (.slice none 0 0)).alloc (.cells #[.slice A n c] 43)
    have bN := Boxed.new (w1.alloc (.cells #[.slice none 0 0] 43)) 43 (.slice A n c)
    have hB0 := below_alloc (below_alloc hb1 (.cells #[.slice none 0 0] 43)) (.cells #[.slice A n c] 43)
    simp only [World.size_alloc] at bN
    obtain ⟨W0, hW0⟩ : ∃ W0, (w1.alloc (.cells #[.slice none 0 0] 43)).alloc (.cells #[.slice A n c] 43) = W0 := ⟨_, rfl⟩
    obtain ⟨g0, hg0⟩ : ∃ g0, w1.heap.size = g0 := ⟨_, rfl⟩
    have hsz : W0.heap.size = g0 + 2 := by rw [← hW0, ← hg0]; simp
    have hg0w : w.heap.size ≤ g0 := by rw [← hg0]; exact hb1.size
    rw [hW0, hg0] at bO bN
    rw [hW0] at hB0 ⊢
    try simp only [World.size_alloc]
    try rw [hg0]
    clear hW0 hg0 hb1
    obtain ⟨zs, hzs⟩ : ∃ zs : List CmdS, zs.map (·.1) = l := ⟨l.attachWith _ hz, by simp⟩
    have HZS := Lib.hid hzs
    have hzl : zs.length = n := by rw [← HL.out, ← hzs, List.length_map]
    clear hzs
    refine wpIn_rangeFunc_ownH rfl (by omega) (gf := 122) (lb := #[.pointer (some ⟨g0 + 1, 0, none⟩)]) rfl trivial (enters_of Tryd.func122 (by kernel_rfl) rfl)
      (backK_stops Fence.wide 7 trivial rfl (by omega) (g0 + 1) w.heap.size A n c zs hzl (by omega) (fun h => ha.lt (by rw [HL.out, ← hzl]; exact h)) W0 (by omega) bN.cell (by rw [HZS.out]; exact ha.belowS hB0)) KeepB.trans (keepB_b (w := W0) hB0.size (by omega)) (Below.refl _ _) (fun _ => rfl)
      (UndoI w g0 A n c) (fun _ _ _ => False) (undoI_own hB0.size) (fun _ _ _ _ _ hs _ _ => hs)
      ⟨⟨⟨_, bO, World.ownsRow_nil _ _ _ _, trivial⟩, bN⟩, hB0⟩
      (UndoAx g0 A n c) (fun x a' => undoAx_own x a')
      ?assign ?body ?done ?stop
    case assign =>
      rintro l pre x W K ⟨⟨⟨v, hv, hrow, -⟩, bN1⟩, hB1⟩ hK
      gi_wp2
      exact hK _ _ ((KeepsOthers.alloc _ _).from _) ⟨(Below.refl _ W).alloc hB1.size _, Below.heap_alloc W _ _ bN1.lt⟩ ⟨⟨⟨v, hv.alloc _, hrow.alloc _, trivial⟩, bN1.alloc _⟩, hB1.alloc hB1.size _⟩ ⟨W.heap.size, bN1.lt, Blk.new W _ _, rfl⟩
    case body =>
      rintro l pre ⟨x0, ⟨q, hqz⟩⟩ a' W hll ⟨r, hr⟩ ⟨⟨⟨v, hv, hrow, -⟩, bN1⟩, hB1⟩ ⟨Bx, hBx, bX, rfl⟩ hlt
      have hmx : Tryd.prog.follows .mixedOrders = true := by kernel_rfl
      have hmx2 := HMX.out.belowS hB1.drew
      have hc1 := hv.cell
      have hs1 := hB1.size
      obtain ⟨x0', x1, x2, x3, x4⟩ := blk5 bX
      gi_wp2
      refine wpIn_region_any hmx ?_
      try (change wpAnyIn _ _ _ _ _ _ _ _ _ (World.drew _))
      refine wpAnyIn_ready (rs := [0, 1]) (by kernel_rfl) (by simp) ?_
      refine AllReadyIn.cons rfl (fun K hK => ?_) ?_
      · go_simp
        refine hK _ _ ?_
        clear hK K
        refine wpAnyIn_ready (rs := [1]) (by kernel_rfl) (by simp) ?_
        refine AllReadyIn.cons rfl (fun K hK => ?_) ?_
        · go_simp
          refine hK _ _ ?_
          clear hK K
          refine wpAnyIn_ready (rs := [2]) (by kernel_rfl) (by simp) ?_
          refine AllReadyIn.cons rfl (fun K hK => ?_) ?_
          · go_simp
            gi_wp2_with (refine ⟨trivial, ?_⟩; gi_at_call 93; refine (CallsIn.inRound l (callsIn_wide.2 (implUndo_any q.p q.x q.y q.z q.u _ hqz hmx2))).mono ?_; rintro e w2 ⟨t, a, b, c', d, rfl, hu, hb2⟩; have hd2 := below_step (Below.refl W.heap.size W).drew hb2; have hv2 : Boxed w2 g0 43 v := (hd2.block g0 hv.lt).trans hv; have hc2 := hv2.cell; have hr2 := own_belowS hrow hd2; have hs2 := hd2.size)
            first | (refine hK _ _ ?_; clear hK K) | skip
            refine wpAnyIn_ready (rs := [3]) (by kernel_rfl) (by simp) ?_
            refine AllReadyIn.cons rfl (fun K hK => ?_) ?_
            · have hc2a := (hv2.alloc (.cells #[.string t, .int .i64 a, .int .i64 b, .int .i64 c', .int .i64 d] 35)).cell
              go_simp
              refine hK _ _ ?_
              clear hK K
              refine wpAnyIn_ready (rs := [4]) (by kernel_rfl) (by simp) ?_
              refine AllReadyIn.cons rfl (fun K hK => ?_) ?_
              · have hoP := hr2.alloc (.cells #[.string t, .int .i64 a, .int .i64 b, .int .i64 c', .int .i64 d] 35)
                have hnP := at_new (enc := encK) w2 encK_len [⟨t, a, b, c', d⟩] 35 #[.string t, .int .i64 a, .int .i64 b, .int .i64 c', .int .i64 d] rfl (by unfold maxLen; simp)
                refine step_append_in (by exact rfl) (.tmp 13) (.tmp 16) 43 (by exact rfl) w.heap.size 35 k0 (.agg #[.string ByteArray.empty, .int .i64 0, .int .i64 0, .int .i64 0, .int .i64 0]) 5 48 Tryd.underlying43 hki hkz0 hkz1 hkz2 rfl (by decide) v pre.length _ (by go_simp) hoP encK_len encK_one (some ⟨w2.heap.size, 0, none⟩) 1 1 [⟨t, a, b, c', d⟩] (by go_simp) rfl hnP (by unfold maxLen; omega) (by omega) (by rw [World.size_alloc]; omega) ?_
                intro v3 w3 ho3 hg3
                obtain ⟨A3, c3, rfl, -, -, -⟩ := own_form ho3
                obtain ⟨hv3, hvS, hrS, hkS, hbS⟩ := hv2.appended (by decide) hr2 (Nat.le_trans hB1.size hs2) hg0w ho3 hg3
                have hc3 := hv3.cell
                have hf3 := hv3.frozen
                have bN3 : Boxed (w3.setCell ⟨g0, 0, none⟩ (.slice A3 (pre.length + 1) c3)) (g0 + 1) 43 (.slice A n c) := (((show Boxed w2 (g0 + 1) 43 (.slice A n c) from (hd2.block (g0 + 1) bN1.lt).trans bN1).alloc _).kept hg3 (((show Boxed w2 (g0 + 1) 43 (.slice A n c) from (hd2.block (g0 + 1) bN1.lt).trans bN1)).not_row (by decide) hr2)).other (by omega) _
                try go_simp
                refine hK _ _ ?_
                clear hK K
                refine wpAnyIn_ready (rs := [5]) (by kernel_rfl) (by simp) ?_
                refine AllReadyIn.cons rfl (fun K hK => ?_) ?_
                · go_simp
                  refine hK _ _ ?_
                  clear hK K
                  refine wpAnyIn_done (by kernel_rfl) ?_ _
                  exact ⟨((keeps_below hd2).trans hkS).from _, ⟨(hd2.mono hB1.size).trans hbS, bN3.trans bN1.symm⟩, ⟨⟨⟨_, hvS, by rw [List.length_append, List.map_append, List.flatMap_append]; (first | exact hrS | (simp only [List.map_singleton, List.map_cons, List.map_nil]; rw [undoC_of hu]; exact hrS)), trivial⟩, bN3⟩, hB1.trans ((hd2.mono hB1.size).trans hbS)⟩⟩
                exact AllReadyIn.nil
              exact AllReadyIn.nil
            exact AllReadyIn.nil
          exact AllReadyIn.nil
        exact AllReadyIn.nil
      refine AllReadyIn.cons rfl (fun K hK => ?_) ?_
      · go_simp
        refine hK _ _ ?_
        clear hK K
        refine wpAnyIn_ready (rs := [0, 2]) (by kernel_rfl) (by simp) ?_
        refine AllReadyIn.cons rfl (fun K hK => ?_) ?_
        · go_simp
          refine hK _ _ ?_
          clear hK K
          refine wpAnyIn_ready (rs := [2]) (by kernel_rfl) (by simp) ?_
          refine AllReadyIn.cons rfl (fun K hK => ?_) ?_
          · go_simp
            gi_wp2_with (refine ⟨trivial, ?_⟩; gi_at_call 93; refine (CallsIn.inRound l (callsIn_wide.2 (implUndo_any q.p q.x q.y q.z q.u _ hqz hmx2))).mono ?_; rintro e w2 ⟨t, a, b, c', d, rfl, hu, hb2⟩; have hd2 := below_step (Below.refl W.heap.size W).drew hb2; have hv2 : Boxed w2 g0 43 v := (hd2.block g0 hv.lt).trans hv; have hc2 := hv2.cell; have hr2 := own_belowS hrow hd2; have hs2 := hd2.size)
            first | (refine hK _ _ ?_; clear hK K) | skip
            refine wpAnyIn_ready (rs := [3]) (by kernel_rfl) (by simp) ?_
            refine AllReadyIn.cons rfl (fun K hK => ?_) ?_
            · have hc2a := (hv2.alloc (.cells #[.string t, .int .i64 a, .int .i64 b, .int .i64 c', .int .i64 d] 35)).cell
              go_simp
              refine hK _ _ ?_
              clear hK K
              refine wpAnyIn_ready (rs := [4]) (by kernel_rfl) (by simp) ?_
              refine AllReadyIn.cons rfl (fun K hK => ?_) ?_
              · have hoP := hr2.alloc (.cells #[.string t, .int .i64 a, .int .i64 b, .int .i64 c', .int .i64 d] 35)
                have hnP := at_new (enc := encK) w2 encK_len [⟨t, a, b, c', d⟩] 35 #[.string t, .int .i64 a, .int .i64 b, .int .i64 c', .int .i64 d] rfl (by unfold maxLen; simp)
                refine step_append_in (by exact rfl) (.tmp 13) (.tmp 16) 43 (by exact rfl) w.heap.size 35 k0 (.agg #[.string ByteArray.empty, .int .i64 0, .int .i64 0, .int .i64 0, .int .i64 0]) 5 48 Tryd.underlying43 hki hkz0 hkz1 hkz2 rfl (by decide) v pre.length _ (by go_simp) hoP encK_len encK_one (some ⟨w2.heap.size, 0, none⟩) 1 1 [⟨t, a, b, c', d⟩] (by go_simp) rfl hnP (by unfold maxLen; omega) (by omega) (by rw [World.size_alloc]; omega) ?_
                intro v3 w3 ho3 hg3
                obtain ⟨A3, c3, rfl, -, -, -⟩ := own_form ho3
                obtain ⟨hv3, hvS, hrS, hkS, hbS⟩ := hv2.appended (by decide) hr2 (Nat.le_trans hB1.size hs2) hg0w ho3 hg3
                have hc3 := hv3.cell
                have hf3 := hv3.frozen
                have bN3 : Boxed (w3.setCell ⟨g0, 0, none⟩ (.slice A3 (pre.length + 1) c3)) (g0 + 1) 43 (.slice A n c) := (((show Boxed w2 (g0 + 1) 43 (.slice A n c) from (hd2.block (g0 + 1) bN1.lt).trans bN1).alloc _).kept hg3 (((show Boxed w2 (g0 + 1) 43 (.slice A n c) from (hd2.block (g0 + 1) bN1.lt).trans bN1)).not_row (by decide) hr2)).other (by omega) _
                try go_simp
                refine hK _ _ ?_
                clear hK K
                refine wpAnyIn_ready (rs := [5]) (by kernel_rfl) (by simp) ?_
                refine AllReadyIn.cons rfl (fun K hK => ?_) ?_
                · go_simp
                  refine hK _ _ ?_
                  clear hK K
                  refine wpAnyIn_done (by kernel_rfl) ?_ _
                  exact ⟨((keeps_below hd2).trans hkS).from _, ⟨(hd2.mono hB1.size).trans hbS, bN3.trans bN1.symm⟩, ⟨⟨⟨_, hvS, by rw [List.length_append, List.map_append, List.flatMap_append]; (first | exact hrS | (simp only [List.map_singleton, List.map_cons, List.map_nil]; rw [undoC_of hu]; exact hrS)), trivial⟩, bN3⟩, hB1.trans ((hd2.mono hB1.size).trans hbS)⟩⟩
                exact AllReadyIn.nil
              exact AllReadyIn.nil
            exact AllReadyIn.nil
          exact AllReadyIn.nil
        refine AllReadyIn.cons rfl (fun K hK => ?_) ?_
        · go_simp
          gi_wp2_with (refine ⟨trivial, ?_⟩; gi_at_call 93; refine (CallsIn.inRound l (callsIn_wide.2 (implUndo_any q.p q.x q.y q.z q.u _ hqz hmx2))).mono ?_; rintro e w2 ⟨t, a, b, c', d, rfl, hu, hb2⟩; have hd2 := below_step (Below.refl W.heap.size W).drew hb2; have hv2 : Boxed w2 g0 43 v := (hd2.block g0 hv.lt).trans hv; have hc2 := hv2.cell; have hr2 := own_belowS hrow hd2; have hs2 := hd2.size)
          first | (refine hK _ _ ?_; clear hK K) | skip
          refine wpAnyIn_ready (rs := [0, 3]) (by kernel_rfl) (by simp) ?_
          refine AllReadyIn.cons rfl (fun K hK => ?_) ?_
          · go_simp
            refine hK _ _ ?_
            clear hK K
            refine wpAnyIn_ready (rs := [3]) (by kernel_rfl) (by simp) ?_
            refine AllReadyIn.cons rfl (fun K hK => ?_) ?_
            · have hc2a := (hv2.alloc (.cells #[.string t, .int .i64 a, .int .i64 b, .int .i64 c', .int .i64 d] 35)).cell
              go_simp
              refine hK _ _ ?_
              clear hK K
              refine wpAnyIn_ready (rs := [4]) (by kernel_rfl) (by simp) ?_
              refine AllReadyIn.cons rfl (fun K hK => ?_) ?_
              · have hoP := hr2.alloc (.cells #[.string t, .int .i64 a, .int .i64 b, .int .i64 c', .int .i64 d] 35)
                have hnP := at_new (enc := encK) w2 encK_len [⟨t, a, b, c', d⟩] 35 #[.string t, .int .i64 a, .int .i64 b, .int .i64 c', .int .i64 d] rfl (by unfold maxLen; simp)
                refine step_append_in (by exact rfl) (.tmp 13) (.tmp 16) 43 (by exact rfl) w.heap.size 35 k0 (.agg #[.string ByteArray.empty, .int .i64 0, .int .i64 0, .int .i64 0, .int .i64 0]) 5 48 Tryd.underlying43 hki hkz0 hkz1 hkz2 rfl (by decide) v pre.length _ (by go_simp) hoP encK_len encK_one (some ⟨w2.heap.size, 0, none⟩) 1 1 [⟨t, a, b, c', d⟩] (by go_simp) rfl hnP (by unfold maxLen; omega) (by omega) (by rw [World.size_alloc]; omega) ?_
                intro v3 w3 ho3 hg3
                obtain ⟨A3, c3, rfl, -, -, -⟩ := own_form ho3
                obtain ⟨hv3, hvS, hrS, hkS, hbS⟩ := hv2.appended (by decide) hr2 (Nat.le_trans hB1.size hs2) hg0w ho3 hg3
                have hc3 := hv3.cell
                have hf3 := hv3.frozen
                have bN3 : Boxed (w3.setCell ⟨g0, 0, none⟩ (.slice A3 (pre.length + 1) c3)) (g0 + 1) 43 (.slice A n c) := (((show Boxed w2 (g0 + 1) 43 (.slice A n c) from (hd2.block (g0 + 1) bN1.lt).trans bN1).alloc _).kept hg3 (((show Boxed w2 (g0 + 1) 43 (.slice A n c) from (hd2.block (g0 + 1) bN1.lt).trans bN1)).not_row (by decide) hr2)).other (by omega) _
                try go_simp
                refine hK _ _ ?_
                clear hK K
                refine wpAnyIn_ready (rs := [5]) (by kernel_rfl) (by simp) ?_
                refine AllReadyIn.cons rfl (fun K hK => ?_) ?_
                · go_simp
                  refine hK _ _ ?_
                  clear hK K
                  refine wpAnyIn_done (by kernel_rfl) ?_ _
                  exact ⟨((keeps_below hd2).trans hkS).from _, ⟨(hd2.mono hB1.size).trans hbS, bN3.trans bN1.symm⟩, ⟨⟨⟨_, hvS, by rw [List.length_append, List.map_append, List.flatMap_append]; (first | exact hrS | (simp only [List.map_singleton, List.map_cons, List.map_nil]; rw [undoC_of hu]; exact hrS)), trivial⟩, bN3⟩, hB1.trans ((hd2.mono hB1.size).trans hbS)⟩⟩
                exact AllReadyIn.nil
              exact AllReadyIn.nil
            exact AllReadyIn.nil
          refine AllReadyIn.cons rfl (fun K hK => ?_) ?_
          · have hc2a := (hv2.alloc (.cells #[.string t, .int .i64 a, .int .i64 b, .int .i64 c', .int .i64 d] 35)).cell
            go_simp
            refine hK _ _ ?_
            clear hK K
            refine wpAnyIn_ready (rs := [0]) (by kernel_rfl) (by simp) ?_
            refine AllReadyIn.cons rfl (fun K hK => ?_) ?_
            · go_simp
              refine hK _ _ ?_
              clear hK K
              refine wpAnyIn_ready (rs := [4]) (by kernel_rfl) (by simp) ?_
              refine AllReadyIn.cons rfl (fun K hK => ?_) ?_
              · have hoP := hr2.alloc (.cells #[.string t, .int .i64 a, .int .i64 b, .int .i64 c', .int .i64 d] 35)
                have hnP := at_new (enc := encK) w2 encK_len [⟨t, a, b, c', d⟩] 35 #[.string t, .int .i64 a, .int .i64 b, .int .i64 c', .int .i64 d] rfl (by unfold maxLen; simp)
                refine step_append_in (by exact rfl) (.tmp 13) (.tmp 16) 43 (by exact rfl) w.heap.size 35 k0 (.agg #[.string ByteArray.empty, .int .i64 0, .int .i64 0, .int .i64 0, .int .i64 0]) 5 48 Tryd.underlying43 hki hkz0 hkz1 hkz2 rfl (by decide) v pre.length _ (by go_simp) hoP encK_len encK_one (some ⟨w2.heap.size, 0, none⟩) 1 1 [⟨t, a, b, c', d⟩] (by go_simp) rfl hnP (by unfold maxLen; omega) (by omega) (by rw [World.size_alloc]; omega) ?_
                intro v3 w3 ho3 hg3
                obtain ⟨A3, c3, rfl, -, -, -⟩ := own_form ho3
                obtain ⟨hv3, hvS, hrS, hkS, hbS⟩ := hv2.appended (by decide) hr2 (Nat.le_trans hB1.size hs2) hg0w ho3 hg3
                have hc3 := hv3.cell
                have hf3 := hv3.frozen
                have bN3 : Boxed (w3.setCell ⟨g0, 0, none⟩ (.slice A3 (pre.length + 1) c3)) (g0 + 1) 43 (.slice A n c) := (((show Boxed w2 (g0 + 1) 43 (.slice A n c) from (hd2.block (g0 + 1) bN1.lt).trans bN1).alloc _).kept hg3 (((show Boxed w2 (g0 + 1) 43 (.slice A n c) from (hd2.block (g0 + 1) bN1.lt).trans bN1)).not_row (by decide) hr2)).other (by omega) _
                try go_simp
                refine hK _ _ ?_
                clear hK K
                refine wpAnyIn_ready (rs := [5]) (by kernel_rfl) (by simp) ?_
                refine AllReadyIn.cons rfl (fun K hK => ?_) ?_
                · go_simp
                  refine hK _ _ ?_
                  clear hK K
                  refine wpAnyIn_done (by kernel_rfl) ?_ _
                  exact ⟨((keeps_below hd2).trans hkS).from _, ⟨(hd2.mono hB1.size).trans hbS, bN3.trans bN1.symm⟩, ⟨⟨⟨_, hvS, by rw [List.length_append, List.map_append, List.flatMap_append]; (first | exact hrS | (simp only [List.map_singleton, List.map_cons, List.map_nil]; rw [undoC_of hu]; exact hrS)), trivial⟩, bN3⟩, hB1.trans ((hd2.mono hB1.size).trans hbS)⟩⟩
                exact AllReadyIn.nil
              exact AllReadyIn.nil
            exact AllReadyIn.nil
          exact AllReadyIn.nil
        exact AllReadyIn.nil
      exact AllReadyIn.nil
    case done =>
      rintro D ys W hD hys ⟨⟨⟨v, hv, hrow, -⟩, bN1⟩, hB1⟩ hK
      have hc := hv.cell
      have HN := Lib.hid (show UndoR l (ys.map fun x => undoC x.2.1) from .inl ⟨HOK.out, by
        have h1 : (ys.map fun x => undoC x.2.1) = (ys.map (·.2)).map (fun q => undoC q.1) := by rw [List.map_map]; rfl
        rw [h1, hys, bk_all, ← HZS.out, ← List.map_reverse, List.map_map]; rfl⟩)
      gi_wp2
      refine ⟨by simp, .inl ⟨_, _, rfl, run_takeDeferred hK, ?_⟩⟩
      exact ⟨_, results_tmp rfl _ _ _, OutR.of (n := ys.length) (by simp) HN.out (ownsRow_putObj hrow _ hK rfl) (hB1.trans (belowK_b (w := w) (Nat.le_refl _) W D _ _ (Nat.le_trans hB0.size hD) hK rfl rfl))⟩
    case stop =>
      rintro D c pre W _ _ h _
      exact h.elim
end Go.Proofs.YtlhhplhciiobfaaDoor
