/- The laws' helpers on [][]int: the comparison, the marks. -/
import Derived.Test.YtnlgpjloedoebaaScan
namespace Go.Proofs.Ytnlgpjloedoebaa
open Go.RowKit
set_option linter.unusedVariables false
set_option linter.unusedSimpArgs false

/-- A table that is read: its rows lie somewhere. -/
structure TabAt (w : World) (A : Option Addr) (rows : List RowI) : Prop where
  outer : At encR 1 w A rows
  inner : ∀ r ∈ rows, At encI 1 w r.A r.zs
theorem TabAt.belowS {w w' : World} {A : Option Addr} {rows : List RowI} (h : TabAt w A rows) (hb : Below w.heap.size w w') : TabAt w' A rows := ⟨h.outer.belowS hb, fun r hr => (h.inner r hr).belowS hb⟩
theorem TabAt.drewN {w : World} {A : Option Addr} {rows : List RowI} (h : TabAt w A rows) (n : Nat) : TabAt (w.drewN n) A rows := ⟨h.outer.drewN n, fun r hr => (h.inner r hr).drewN n⟩
theorem Rows1.tab {w : World} {base : Nat} {A : Option Addr} {n c : Nat} {rows : List RowI} (h : Rows1 w base (.slice A n c) rows) (hn : rows.length = n) : TabAt w A rows := by
  subst hn
  exact ⟨own_at encR_len h.outer rfl, fun r hr => own_at encI_len (h.inner r hr) rfl⟩

def SameT (xs ys : List (List Int)) (w : World) (e : Ending) (w' : World) : Prop := e = .returned (.bool (decide (xs = ys))) ∧ ∃ q, w' = w.drewN q

set_option maxHeartbeats 1000000 in
theorem eqIntSS_any (A B : Option Addr) (n m c d : Nat) (ra rb : List RowI) (w : World) (hn : n ≤ 140737488355328) (hx : ra.length = n) (hy : rb.length = m) (ha : TabAt w A ra) (hb : TabAt w B rb) (hla : ∀ r ∈ ra, r.zs.length ≤ 140737488355328) :
    Calls Try.prog 38 #[.slice A n c, .slice B m d] w (SameT (ra.map (·.zs)) (rb.map (·.zs)) w) := by
  obtain ⟨i0, hi, hz0, hz1, hz2⟩ := info_parts infoInt
  obtain ⟨j0, ji, jz0, jz1, jz2⟩ := info_parts infoSl
  by_cases hnm : n = m
  case neg =>
    have h1 : ((n : Int) != m) = true := by simp; omega
    have h2 : ra.map (·.zs) ≠ rb.map (·.zs) := by intro h; have := congrArg List.length h; simp at this; omega
    have H2 := Lib.hid h2
    clear h2 hx hy
    go_enter Try.func38, Try.ntmps38
    go_wp2
    go_ret
    exact ⟨ret_bool (b := false) (decide_eq_false H2.out).symm, 0, rfl⟩
  subst hnm
  have HX := Lib.hid hx
  have HY := Lib.hid hy
  clear hx hy
  go_enter Try.func38, Try.ntmps38
  go_wp2
  go_loopw [5] (fun i wr => ∃ k : Nat, i = .int .i64 k ∧ k ≤ n ∧ (∃ q, wr = w.drewN q) ∧ (ra.map (·.zs)).take k = (rb.map (·.zs)).take k) (fun i _ => n - (intOf i).toNat)
  case atStart => exact ⟨0, rfl, Nat.zero_le _, ⟨0, rfl⟩, rfl⟩
  case round =>
    obtain ⟨k, rfl, hk, hq, ht⟩ := hrel
    have HT := Lib.hid ht
    clear ht
    have ha : TabAt wr A ra := by obtain ⟨q, rfl⟩ := hq; exact ha.drewN q
    have hb : TabAt wr B rb := by obtain ⟨q, rfl⟩ := hq; exact hb.drewN q
    have hnew : ∀ m, ∃ q, wr.drewN m = w.drewN q := fun m => by obtain ⟨q, rfl⟩ := hq; exact ⟨_, World.drewN_drewN ..⟩
    have HQ := Lib.hid hnew
    clear hq hnew
    by_cases hlt : k < n
    · have hlx : k < ra.length := by rw [HX.out]; exact hlt
      have hly : k < rb.length := by rw [HY.out]; exact hlt
      have hidx := fun W => run_index_one (c := c) Try.underlying39 ji jz1 (ha.outer.addr (by omega)) hlt W
      have hidy := fun W => run_index_one (c := d) Try.underlying39 ji jz1 (hb.outer.addr (by omega)) hlt W
      have c1 : wr.cell? ⟨blk A, off A + k, none⟩ = some (.slice ra[k].A ra[k].zs.length ra[k].c) := ha.outer.cell1 hlx rfl
      have c2 : wr.cell? ⟨blk B, off B + k, none⟩ = some (.slice rb[k].A rb[k].zs.length rb[k].c) := hb.outer.cell1 hly rfl
      have hxa := ha.inner ra[k] (List.getElem_mem _)
      have hxb := hb.inner rb[k] (List.getElem_mem _)
      have hlen := hla ra[k] (List.getElem_mem _)
      have HIFF := Lib.hid (take_succ_eq_iff (xs := ra.map (·.zs)) (ys := rb.map (·.zs)) (k := k) (x := ra[k].zs) (y := rb[k].zs) (by simp [hlx]) (by simp [hly]) HT.out)
      have HNE := Lib.hid (fun (h : ra[k].zs ≠ rb[k].zs) => ne_of_at (xs := ra.map (·.zs)) (ys := rb.map (·.zs)) (k := k) (x := ra[k].zs) (y := rb[k].zs) (by simp [hlx]) (by simp [hly]) h)
      generalize ra[k] = r at c1 hxa hlen HIFF HNE
      generalize rb[k] = s at c2 hxb HIFF HNE
      by_cases he : r.zs = s.zs
      · have hd : decide (r.zs = s.zs) = true := decide_eq_true he
        have HE := Lib.hid he
        clear he hlx hly
        go_wp2
        go_quiet ((go_at_call 25; exact Calls.quiet_of (eqIntS_any _ _ _ _ _ _ r.zs s.zs _ hlen rfl rfl (hxa.drewN _) (hxb.drewN _))))
        go_wp2
        go_roundw
        case rel => exact ⟨k + 1, by go_num, by omega, HQ.out _, HIFF.out.2 HE.out⟩
        case measure => simp [intOf]; omega
      · have hd : decide (r.zs = s.zs) = false := decide_eq_false he
        have HE := Lib.hid he
        clear he hlx hly
        go_wp2
        go_quiet ((go_at_call 25; exact Calls.quiet_of (eqIntS_any _ _ _ _ _ _ r.zs s.zs _ hlen rfl rfl (hxa.drewN _) (hxb.drewN _))))
        go_wp2
        go_ret
        exact ⟨ret_bool (b := false) (decide_eq_false (HNE.out HE.out)).symm, HQ.out _⟩
    · obtain rfl : n = k := by omega
      have he : ra.map (·.zs) = rb.map (·.zs) := by
        have := HT.out
        rwa [List.take_of_length_le (by rw [List.length_map, HX.out]; exact Nat.le_refl _), List.take_of_length_le (by rw [List.length_map, HY.out]; exact Nat.le_refl _)] at this
      have HE := Lib.hid he
      clear he
      go_wp2
      go_ret
      exact ⟨ret_bool (b := true) (decide_eq_true HE.out).symm, HQ.out 0⟩

/-- The rows of a table, marked from k on. -/
def markR (k : Int) : List RowI → List RowI
  | [] => []
  | r :: t => ⟨r.A, r.c, marks k r.zs.length⟩ :: markR (k + r.zs.length) t
def totR (rows : List RowI) : Nat := (rows.map (·.zs.length)).sum
theorem markR_len (k : Int) (rows : List RowI) : (markR k rows).length = rows.length := by induction rows generalizing k with
  | nil => rfl
  | cons r t ih => simp [markR, ih]
theorem markR_snoc (k : Int) (pre : List RowI) (r : RowI) : markR k (pre ++ [r]) = markR k pre ++ [⟨r.A, r.c, marks (k + totR pre) r.zs.length⟩] := by
  induction pre generalizing k with
  | nil => simp [markR, totR]
  | cons p t ih =>
    have e : k + (p.zs.length : Int) + (totR t : Int) = k + ((totR (p :: t) : Nat) : Int) := by simp [totR]; omega
    show _ :: markR (k + p.zs.length) (t ++ [r]) = _ :: (markR (k + p.zs.length) t ++ _)
    rw [ih, e]
theorem totR_snoc (pre : List RowI) (r : RowI) : totR (pre ++ [r]) = totR pre + r.zs.length := by simp [totR]

/-- A row is marked: the other rows and the table stay as they were. -/
theorem Rows1.mark {w w' : World} {base : Nat} {v : Value} {pre post : List RowI} {r : RowI} {zs : List Int} (h : Rows1 w base v (pre ++ r :: post)) (hl : zs.length = r.zs.length) (hg : w.grownBy w' (rowOf r.A r.zs.length))
    (ho : w'.ownsRow base 3 1 (.slice r.A r.zs.length r.c) r.zs.length (zs.flatMap encI)) : Rows1 w' base v (pre ++ ⟨r.A, r.c, zs⟩ :: post) := by
  have hrow : ∀ g, rowOf r.A r.zs.length = some g → (Value.slice r.A r.zs.length r.c).ownBlock = some g := by
    intro g hr
    unfold rowOf at hr
    split at hr
    · cases hr
    · rename_i hne
      injection hr with hr
      obtain ⟨A', c', hv, _, _, hA⟩ := own_form (h.inner r (by simp))
      injection hv with h1 _ _
      subst h1
      have := (hA (by omega)).1
      rw [this, ← hr]; rfl
  have keep : ∀ s : RowI, w.ownsRow base 3 1 (.slice s.A s.zs.length s.c) s.zs.length (s.zs.flatMap encI) → (∀ g, (Value.slice s.A s.zs.length s.c).ownBlock = some g → (Value.slice r.A r.zs.length r.c).ownBlock ≠ some g) → w'.ownsRow base 3 1 (.slice s.A s.zs.length s.c) s.zs.length (s.zs.flatMap encI) := by
    intro s hs hne
    refine hs.kept hg ?_
    cases hb : (Value.slice s.A s.zs.length s.c).ownBlock with
    | none => exact .inl rfl
    | some g => exact .inr (fun he => hne g hb (hrow g he.symm))
  have hap := List.pairwise_append.1 h.apart
  have hap2 := List.pairwise_cons.1 hap.2.1
  have hob : (Value.slice r.A zs.length r.c).ownBlock = (Value.slice r.A r.zs.length r.c).ownBlock := by rw [hl]
  refine ⟨?_, fun s hs => ?_, ?_⟩
  · have e : (pre ++ (⟨r.A, r.c, zs⟩ : RowI) :: post).flatMap encR = (pre ++ r :: post).flatMap encR := by simp [encR, hl]
    have e2 : (pre ++ (⟨r.A, r.c, zs⟩ : RowI) :: post).length = (pre ++ r :: post).length := by simp
    rw [e, e2]
    cases hb : v.ownBlock with
    | none => exact h.outer.kept hg (.inl hb)
    | some g =>
      refine h.outer.kept hg (.inr fun he => ?_)
      rcases own_types h.outer (h.inner r (by simp)) (by decide) with hn | hn
      · rw [hb] at hn; cases hn
      · rw [hb] at he; exact hn (by rw [hb, hrow g he.symm])
  · rcases List.mem_append.1 hs with hs | hs
    · exact keep s (h.inner s (by simp [hs])) (fun g hg' => hap.2.2 s hs r (by simp) g hg')
    · rcases List.mem_cons.1 hs with rfl | hs
      · show w'.ownsRow base 3 1 (.slice r.A zs.length r.c) zs.length _
        rw [hl]; exact ho
      · exact keep s (h.inner s (by simp [hs])) (fun g hg' he => hap2.1 s hs g he hg')
  · refine List.pairwise_append.2 ⟨hap.1, List.pairwise_cons.2 ⟨fun s hs g hg' => ?_, hap2.2⟩, fun s hs t ht g hg' => ?_⟩
    · exact hap2.1 s hs g (by rw [← hob]; exact hg')
    · rcases List.mem_cons.1 ht with rfl | ht
      · show (Value.slice r.A zs.length r.c).ownBlock ≠ _
        rw [hob]; exact hap.2.2 s hs r (by simp) g hg'
      · exact hap.2.2 s hs t (by simp [ht]) g hg'

/-- Only blocks between lo and hi may have been written. -/
structure Mid (lo hi : Nat) (w w' : World) : Prop where
  os : w'.os = w.os
  tape : w'.tape = w.tape
  output : w'.output = w.output
  size : w.heap.size ≤ w'.heap.size
  block : ∀ k, k < w.heap.size → (k < lo ∨ hi ≤ k) → w'.heap[k]? = w.heap[k]?
theorem Mid.refl (lo hi : Nat) (w : World) : Mid lo hi w w := ⟨rfl, rfl, rfl, Nat.le_refl _, fun _ _ _ => rfl⟩
theorem Mid.below {lo hi : Nat} {w w' : World} (h : Mid lo hi w w') (hlo : lo ≤ w.heap.size) : Below lo w w' := ⟨h.os, h.tape, h.output, h.size, fun k hk => h.block k (by omega) (.inl hk)⟩
theorem Mid.drewN {lo hi : Nat} {a w : World} (h : Mid lo hi a w) (n : Nat) : Mid lo hi a (w.drewN n) := ⟨h.os, h.tape, h.output, h.size, h.block⟩
theorem Mid.grown {lo hi : Nat} {a w w' : World} {A : Option Addr} {n : Nat} (h : Mid lo hi a w) (hg : w.grownBy w' (rowOf A n)) (hr : 0 < n → lo ≤ blk A ∧ blk A < hi) : Mid lo hi a w' :=
  ⟨hg.os.trans h.os, hg.tape.trans h.tape, hg.output.trans h.output, Nat.le_trans h.size hg.size, fun k hk hh => (hg.block k (Nat.lt_of_lt_of_le hk h.size) (rowOf_ne' fun hn => by have := hr hn; omega)).trans (h.block k hk hh)⟩
theorem own_mid {lo hi : Nat} {w w' : World} {base : Nat} {e : TypeId} {k n : Nat} {v : Value} {cs : List Value} (h : w.ownsRow base e k v n cs) (hm : Mid lo hi w w') (hB : hi ≤ base) : w'.ownsRow base e k v n cs := by
  rcases h.2 with ⟨hv, hn⟩ | ⟨g, cap, cur, hv, hg, hh, r⟩
  · exact ⟨h.1, .inl ⟨hv, hn⟩⟩
  · refine ⟨h.1, .inr ⟨g, cap, cur, hv, hg, ?_, r⟩⟩
    rw [hm.block g (Array.getElem?_eq_some_iff.1 hh).1 (.inr (by omega))]
    exact hh
theorem Rows1.up {w : World} {base : Nat} {v : Value} {rows : List RowI} (h : Rows1 w base v rows) : ∀ r ∈ rows, 0 < r.zs.length → blk r.A < w.heap.size := fun r hr hl => (own_blk (h.inner r hr) hl).2

set_option maxHeartbeats 1000000 in
theorem markIntSS_mid (hi : Nat) (A : Option Addr) (n c : Nat) (k : Int) (rows : List RowI) (w : World) (base : Nat) (hn : n ≤ 1048576) (hk : 0 ≤ k) (hk2 : k ≤ 1048576) (hl : rows.length = n) (ht : totR rows ≤ 1048576) (hbase : base ≤ w.heap.size) (hr : Rows1 w base (.slice A n c) rows) (hup : ∀ r ∈ rows, 0 < r.zs.length → blk r.A < hi) :
    Calls Try.prog 39 #[.slice A n c, .int .i64 k] w fun e w' => e = .returned (.int .i64 (k + totR rows)) ∧ Rows1 w' base (.slice A n c) (markR k rows) ∧ Mid base hi w w' := by
  obtain ⟨j0, ji, jz0, jz1, jz2⟩ := info_parts infoSl
  have HL := Lib.hid hl
  clear hl
  go_enter Try.func39, Try.ntmps39
  go_wp2
  go_loopw [1, 5] (fun q i wr => ∃ (j : Nat) (pre post : List RowI), i = .int .i64 j ∧ q = .int .i64 (k + totR pre) ∧ pre.length = j ∧ rows = pre ++ post ∧ Rows1 wr base (.slice A n c) (markR k pre ++ post) ∧ Mid base hi w wr) (fun _ i _ => n - (intOf i).toNat)
  case atStart => exact ⟨0, [], rows, rfl, by simp [totR], rfl, rfl, hr, Mid.refl _ _ _⟩
  case round =>
    obtain ⟨j, pre, post, rfl, rfl, hj, hrows, hro, hbw⟩ := hrel
    have HJ := Lib.hid hj
    have HR := Lib.hid hrows
    clear hj hrows
    cases post with
    | nil =>
      have e : n = j := by have := HL.out; rw [HR.out] at this; simp at this; rw [← this, HJ.out]
      have e2 : rows = pre := by rw [HR.out, List.append_nil]
      rw [List.append_nil] at hro
      subst e2
      obtain rfl := e
      go_wp2
      go_ret
      exact ⟨rfl, hro, hbw⟩
    | cons r post =>
      have hjn : j < n := by have := HL.out; rw [HR.out] at this; simp at this; have := HJ.out; omega
      have htab := hro.tab (by rw [List.length_append, markR_len, ← HL.out, HR.out, List.length_append])
      have hlm : j < (markR k pre ++ r :: post).length := by rw [List.length_append, markR_len, HJ.out]; simp
      have hget : (markR k pre ++ r :: post)[j] = r := by rw [List.getElem_append_right (by rw [markR_len, HJ.out]; exact Nat.le_refl _)]; simp [markR_len, HJ.out]
      have hidx := fun W => run_index_one (c := c) Try.underlying39 ji jz1 (htab.outer.addr (by omega)) hjn W
      have c1 : wr.cell? ⟨blk A, off A + j, none⟩ = some (.slice r.A r.zs.length r.c) := htab.outer.cell1 hlm (by rw [hget]; rfl)
      have htot : totR pre + r.zs.length ≤ 1048576 := by
        have e3 : totR rows = totR pre + r.zs.length + totR post := by rw [HR.out]; simp [totR]; omega
        omega
      have hri := hro.inner r (by simp)
      have HO := Lib.hid hro
      clear hget hro hlm
      go_wp2_with fail
      refine (markIntS_any _ _ _ (k + totR pre) _ _ base (by omega) (by omega) (by omega) hri).mono ?_
      rintro e w1 ⟨rfl, ho1, hg1⟩
      have HN := Lib.hid (HO.out.mark (zs := marks (k + totR pre) r.zs.length) (marks_len _ _) hg1 ho1)
      have hb1 : Mid base hi w w1 := hbw.grown hg1 (fun h => ⟨(own_blk hri h).1, hup r (by rw [HR.out]; simp) h⟩)
      go_wp2
      go_roundw
      case rel =>
        refine ⟨j + 1, pre ++ [r], post, by go_num, by rw [totR_snoc]; go_num, by simp [HJ.out], by rw [HR.out]; simp, ?_, hb1⟩
        rw [markR_snoc, List.append_assoc]
        exact HN.out
      case measure => simp [intOf]; omega

theorem markIntSS_any (A : Option Addr) (n c : Nat) (k : Int) (rows : List RowI) (w : World) (base : Nat) (hn : n ≤ 1048576) (hk : 0 ≤ k) (hk2 : k ≤ 1048576) (hl : rows.length = n) (ht : totR rows ≤ 1048576) (hbase : base ≤ w.heap.size) (hr : Rows1 w base (.slice A n c) rows) :
    Calls Try.prog 39 #[.slice A n c, .int .i64 k] w fun e w' => e = .returned (.int .i64 (k + totR rows)) ∧ Rows1 w' base (.slice A n c) (markR k rows) ∧ Below base w w' :=
  (markIntSS_mid w.heap.size A n c k rows w base hn hk hk2 hl ht hbase hr hr.up).mono fun _ _ ⟨h1, h2, h3⟩ => ⟨h1, h2, h3.below hbase⟩

theorem markR_append (k : Int) (pre post : List RowI) : markR k (pre ++ post) = markR k pre ++ markR (k + totR pre) post := by
  induction pre generalizing k with
  | nil => simp [markR, totR]
  | cons p t ih =>
    have e : k + (p.zs.length : Int) + (totR t : Int) = k + ((totR (p :: t) : Nat) : Int) := by simp [totR]; omega
    show _ :: markR (k + p.zs.length) (t ++ post) = _ :: (markR (k + p.zs.length) t ++ _)
    rw [ih, e]

set_option maxHeartbeats 1000000 in
theorem heldIntSS_any (A : Option Addr) (n c : Nat) (k : Int) (rows : List RowI) (w : World) (hn : n ≤ 1048576) (hk : 0 ≤ k) (hk2 : k ≤ 1048576) (hl : rows.length = n) (ht : totR rows ≤ 1048576) (htab : TabAt w A (markR k rows)) :
    Calls Try.prog 40 #[.slice A n c, .int .i64 k] w fun e w' => e = .returned (.int .i64 (k + totR rows)) ∧ Below w.heap.size w w' := by
  obtain ⟨j0, ji, jz0, jz1, jz2⟩ := info_parts infoSl
  have HL := Lib.hid hl
  clear hl
  go_enter Try.func40, Try.ntmps40
  go_wp2
  go_loopw [1, 5] (fun q i wr => ∃ (j : Nat) (pre post : List RowI), i = .int .i64 j ∧ q = .int .i64 (k + totR pre) ∧ pre.length = j ∧ rows = pre ++ post ∧ Below w.heap.size w wr) (fun _ i _ => n - (intOf i).toNat)
  case atStart => exact ⟨0, [], rows, rfl, by simp [totR], rfl, rfl, Below.refl _ _⟩
  case round =>
    obtain ⟨j, pre, post, rfl, rfl, hj, hrows, hbw⟩ := hrel
    have HJ := Lib.hid hj
    have HR := Lib.hid hrows
    clear hj hrows
    cases post with
    | nil =>
      have e : n = j := by have := HL.out; rw [HR.out] at this; simp at this; rw [← this, HJ.out]
      have e2 : rows = pre := by rw [HR.out, List.append_nil]
      subst e2
      obtain rfl := e
      go_wp2
      go_ret
      exact ⟨rfl, hbw⟩
    | cons r post =>
      have hjn : j < n := by have := HL.out; rw [HR.out] at this; simp at this; have := HJ.out; omega
      have htw := htab.belowS hbw
      have em : markR k rows = markR k pre ++ ⟨r.A, r.c, marks (k + totR pre) r.zs.length⟩ :: markR (k + totR pre + r.zs.length) post := by rw [HR.out, markR_append]; rfl
      rw [em] at htw
      have hlm : j < (markR k pre ++ (⟨r.A, r.c, marks (k + totR pre) r.zs.length⟩ : RowI) :: markR (k + totR pre + r.zs.length) post).length := by rw [List.length_append, markR_len, HJ.out]; simp
      have hget : (markR k pre ++ (⟨r.A, r.c, marks (k + totR pre) r.zs.length⟩ : RowI) :: markR (k + totR pre + r.zs.length) post)[j] = ⟨r.A, r.c, marks (k + totR pre) r.zs.length⟩ := by rw [List.getElem_append_right (by rw [markR_len, HJ.out]; exact Nat.le_refl _)]; simp [markR_len, HJ.out]
      have hidx := fun W => run_index_one (c := c) Try.underlying39 ji jz1 (htw.outer.addr (by omega)) hjn W
      have c1 : wr.cell? ⟨blk A, off A + j, none⟩ = some (.slice r.A r.zs.length r.c) := htw.outer.cell1 hlm (by rw [hget]; simp [encR, marks_len])
      have htot : totR pre + r.zs.length ≤ 1048576 := by
        have e3 : totR rows = totR pre + r.zs.length + totR post := by rw [HR.out]; simp [totR]; omega
        omega
      have hri := htw.inner ⟨r.A, r.c, marks (k + totR pre) r.zs.length⟩ (by simp)
      clear hget htw hlm em
      go_wp2_with fail
      refine (heldIntS_b _ _ _ (k + totR pre) _ (by omega) (by omega) (by omega) hri).mono ?_
      rintro e w1 ⟨rfl, hb1⟩
      go_wp2
      go_roundw
      case rel => exact ⟨j + 1, pre ++ [r], post, by go_num, by rw [totR_snoc]; go_num, by simp [HJ.out], by rw [HR.out]; simp, below_step hbw hb1⟩
      case measure => simp [intOf]; omega
end Go.Proofs.Ytnlgpjloedoebaa
