/- The scan of frames, by the program's text. -/
import Derived.Test.YtnlgpjloedoebaaFrame
import Derived.Test.YtnlgpjloedoebaaFrameOf
import Derived.Lib.SliceRun
namespace Go.Proofs.Ytnlgpjloedoebaa
open Go.RowKit
set_option linter.unusedVariables false
set_option linter.unusedSimpArgs false

theorem infoSl : (Try.prog.info? 32).map (fun i => (i.zero, i.size, i.bytes)) = some (some (.slice none 0 0), 1, 24) := by kernel_rfl

theorem encR_len (r : RowI) : (encR r).length = 1 := rfl
theorem encR_one (r : RowI) : ∀ u ∈ encR r, u.oneCell' = true := by intro u hu; simp [encR] at hu; subst hu; rfl

/-- The rows of a table of the call's own: each lies in a block of its own. -/
structure Rows1 (w : World) (base : Nat) (v : Value) (rows : List RowI) : Prop where
  outer : w.ownsRow base 32 1 v rows.length (rows.flatMap encR)
  inner : ∀ r ∈ rows, w.ownsRow base 3 1 (.slice r.A r.zs.length r.c) r.zs.length (r.zs.flatMap encI)
  apart : rows.Pairwise fun r s => ∀ g, (Value.slice r.A r.zs.length r.c).ownBlock = some g → (Value.slice s.A s.zs.length s.c).ownBlock ≠ some g

theorem own_types {w : World} {b b' : Nat} {e e' : TypeId} {k k' n n' : Nat} {v v' : Value} {cs cs' : List Value} (h : w.ownsRow b e k v n cs) (h' : w.ownsRow b' e' k' v' n' cs') (hne : e ≠ e') : v.ownBlock = none ∨ v.ownBlock ≠ v'.ownBlock := by
  rcases h.2 with ⟨hv, _⟩ | ⟨g, cap, cur, hv, _, hh, _⟩
  · rw [hv]; exact .inl rfl
  · right
    rcases h'.2 with ⟨hv', _⟩ | ⟨g', cap', cur', hv', _, hh', _⟩
    · rw [hv, hv']; simp [Value.ownBlock]
    · rw [hv, hv']
      intro he
      simp [Value.ownBlock] at he
      subst he
      rw [hh] at hh'
      injection hh' with hh'
      injection hh' with _ h2
      exact hne h2

theorem Rows1.nil (w : World) (base : Nat) : Rows1 w base (.slice none 0 0) [] := ⟨World.ownsRow_nil _ _ _ _, fun r hr => by simp at hr, List.Pairwise.nil⟩
theorem Rows1.belowS {w w' : World} {base : Nat} {v : Value} {rows : List RowI} (h : Rows1 w base v rows) (hb : Below w.heap.size w w') : Rows1 w' base v rows :=
  ⟨own_belowS h.outer hb, fun r hr => own_belowS (h.inner r hr) hb, h.apart⟩
theorem Rows1.push {w w1 w' : World} {base : Nat} {v v' : Value} {rows : List RowI} {r : RowI} (h : Rows1 w base v rows) (hb : Below w.heap.size w w1) (hbase : base ≤ w.heap.size)
    (hr : w1.ownsRow w.heap.size 3 1 (.slice r.A r.zs.length r.c) r.zs.length (r.zs.flatMap encI))
    (ho : w'.ownsRow base 32 1 v' (rows.length + 1) (rows.flatMap encR ++ [r].flatMap encR)) (hg : w1.grownBy w' v.ownBlock) : Rows1 w' base v' (rows ++ [r]) := by
  have h1 := h.belowS hb
  refine ⟨by rw [List.length_append, List.flatMap_append]; exact ho, fun s hs => ?_, ?_⟩
  · rcases List.mem_append.1 hs with hs | hs
    · exact (h1.inner s hs).kept hg (own_types (h1.inner s hs) h1.outer (by decide))
    · simp at hs; subst hs
      exact own_mono (hr.kept hg (own_types hr h1.outer (by decide))) hbase
  · refine List.pairwise_append.2 ⟨h.apart, List.pairwise_singleton _ _, fun s hs t ht => ?_⟩
    simp at ht; subst ht
    intro g h2 h3
    have := ((h.inner s hs).lt g h2).2
    have := (hr.lt g h3).1
    omega

theorem own_caps {w : World} {base : Nat} {e : TypeId} {k n m c : Nat} {A : Option Addr} {cs : List Value} (h : w.ownsRow base e k (.slice A m c) n cs) : n ≤ c ∧ c ≤ 9223372036854775807 := by
  obtain ⟨A', c', hv, h1, h2, _⟩ := own_form h
  injection hv with _ _ h3
  subst h3
  exact ⟨h1, by unfold maxLen at h2; omega⟩

/-- The bodies of all frames, and how many numbers they have. -/
def scanGo : Nat → List Int → List (List Int) × Nat
  | 0, _ => ([], 0)
  | f + 1, l => match headL l with
    | none => ([], 0)
    | some b => (b :: (scanGo f (l.drop (b.length + 2))).1, b.length + 2 + (scanGo f (l.drop (b.length + 2))).2)
def scanL (l : List Int) : List (List Int) × Nat := scanGo (l.length + 1) l

/-- What has been read up to k. -/
def ScanAt (l : List Int) (k : Nat) (bs : List (List Int)) : Prop :=
  ∃ f, (l.drop k).length < f ∧ scanL l = (bs ++ (scanGo f (l.drop k)).1, k + (scanGo f (l.drop k)).2)
theorem ScanAt.zero (l : List Int) : ScanAt l 0 [] := ⟨l.length + 1, by simp, by simp [scanL]⟩
theorem ScanAt.done {l : List Int} {k : Nat} {bs : List (List Int)} (h : ScanAt l k bs) (hh : headL (l.drop k) = none) : scanL l = (bs, k) := by
  obtain ⟨f, hf, he⟩ := h
  obtain ⟨f, rfl⟩ : ∃ g, f = g + 1 := ⟨f - 1, by omega⟩
  rw [he]
  simp [scanGo, hh]
theorem ScanAt.next {l : List Int} {k : Nat} {bs : List (List Int)} {b : List Int} (h : ScanAt l k bs) (hh : headL (l.drop k) = some b) : ScanAt l (k + (b.length + 2)) (bs ++ [b]) ∧ k + (b.length + 2) ≤ l.length := by
  obtain ⟨f, hf, he⟩ := h
  obtain ⟨f, rfl⟩ : ∃ g, f = g + 1 := ⟨f - 1, by omega⟩
  have hb := headL_body hh
  have h2 := hb.2.1
  rw [List.length_drop] at h2
  refine ⟨⟨f, ?_, ?_⟩, by omega⟩
  · rw [List.length_drop] at hf ⊢; omega
  · rw [he]
    simp only [scanGo, hh]
    rw [List.drop_drop]
    simp only [List.append_assoc, List.singleton_append]
    congr 1
    omega

set_option maxHeartbeats 400000 in
theorem cloneInts_any (A : Option Addr) (n c : Nat) (l : List Int) (w : World) (hl : l.length = n) (hn0 : 0 < n) (hn : n ≤ 1048576) (ha : At encI 1 w A l) :
    Calls Try.prog 54 #[.slice A n c] w (Out encI 1 3 l w) := by
  obtain ⟨i0, hi, hz0, hz1, hz2⟩ := info_parts infoInt
  have HL := Lib.hid hl
  clear hl
  have hnil : ∀ W, (binOp .eql 32 (.slice A n c) (.slice none 0 0)).run Try.prog W = .ok (.bool false) W := fun W => by
    rw [Lib.run_eql_slice_nil W _ _ A n c 0 0 Try.underlying32, ha.addr (by rw [HL.out]; exact hn0)]; rfl
  have own0 := World.ownsRow_lit (base := w.heap.size) (e := 3) (size := 1) w #[] 0 (Nat.le_refl _) (by decide) rfl
  have hb0 := (Below.refl w.heap.size w).alloc (Nat.le_refl _) (.cells #[] 3)
  have ha0 := ha.belowS hb0
  go_enter Try.func54, Try.ntmps54
  go_wp2_with (at_builtin; refine wpList_append_at _ rfl _ _ 32 rfl w.heap.size 3 i0 (.int .i64 0) 1 8 Try.underlying32 hi hz0 hz1 hz2 rfl (by decide) _ 0 [] rfl own0 encI_len encI_one A n c l rfl HL.out ha0 (by unfold maxLen; omega) (by omega) (by simp) ?_; intro v1 w1 ho1 hg1 hv1)
  go_ret
  exact Out.of (n := 0 + n) (by rw [HL.out, Nat.zero_add]) (by simp) ho1 (below_app hb0 hg1 (own_ge own0))

/-- A table that a function hands back, and a number. -/
def OutT (bs : List (List Int)) (k : Int) (w : World) (e : Ending) (w' : World) : Prop :=
  ∃ (rows : List RowI) (A : Option Addr) (c : Nat), e = .returned (.tuple #[.slice A rows.length c, .int .i64 k]) ∧ rows.map (·.zs) = bs ∧ Rows1 w' w.heap.size (.slice A rows.length c) rows ∧ Below w.heap.size w w'
theorem OutT.of {bs : List (List Int)} {k : Int} {w w' : World} {v : Value} {rows : List RowI} (hm : rows.map (·.zs) = bs) (h : Rows1 w' w.heap.size v rows) (hb : Below w.heap.size w w') : OutT bs k w (.returned (.tuple #[v, .int .i64 k])) w' := by
  obtain ⟨A, c, rfl, _⟩ := own_form h.outer
  exact ⟨rows, A, c, rfl, hm, h, hb⟩

set_option maxHeartbeats 1000000 in
theorem implScan_any (A : Option Addr) (n c : Nat) (l : List Int) (w : World) (hl : l.length = n) (hnc : n ≤ c) (hcm : c ≤ 9223372036854775807) (ha : At encI 1 w A l) (hwf : ∀ z ∈ l, -9223372036854775808 ≤ z ∧ z ≤ 9223372036854775807) (hn : n ≤ 1048576) :
    Calls Try.prog 33 #[.slice A n c] w (OutT (scanL l).1 (scanL l).2 w) := by
  obtain ⟨i0, hi, hz0, hz1, hz2⟩ := info_parts infoInt
  obtain ⟨j0, ji, jz0, jz1, jz2⟩ := info_parts infoSl
  have HL := Lib.hid hl
  clear hl
  go_enter Try.func33, Try.ntmps33
  go_wp2_with fail
  go_loopw [4, 5] (fun v i wr => ∃ (k : Nat) (rows : List RowI), i = .int .i64 k ∧ k ≤ n ∧ 3 * rows.length ≤ k ∧ ScanAt l k (rows.map (·.zs)) ∧ Rows1 wr w.heap.size v rows ∧ Below w.heap.size w wr) (fun _ i _ => n - (intOf i).toNat)
  case atStart => exact ⟨0, [], rfl, Nat.zero_le _, Nat.le_refl _, ScanAt.zero l, Rows1.nil _ _, Below.refl _ _⟩
  case round =>
    obtain ⟨k, rows, rfl, hk, hrk, hsc, hro, hbw⟩ := hrel
    have HSC := Lib.hid hsc
    clear hsc
    have hsl : ∀ W, (Instr.slice 32 (.slice A n c) (some (.int .i64 (k : Int))) none none).run Try.prog W = .ok (.slice (sub A c k 1) (n - k) (c - k)) W := fun W => run_slice_from Try.underlying32 hi hz1 A n c W k hk
    have hsub : At encI 1 wr (sub A c k 1) (l.drop k) := by
      have := (ha.belowS hbw).sub (c := c) (lo := k) (m := n - k) (by rw [HL.out]; exact hnc) (by rw [HL.out]; omega)
      rwa [List.take_of_length_le (by rw [List.length_drop, HL.out]; exact Nat.le_refl _)] at this
    have hdl : (l.drop k).length = n - k := by rw [List.length_drop, HL.out]
    have HDL := Lib.hid hdl
    clear hdl
    go_wp2_with fail
    refine (implFrame_any _ (n - k) (c - k) (l.drop k) _ (by omega) HDL.out (by omega) (by omega) hsub (fun z hz => hwf z (List.mem_of_mem_drop hz))).mono ?_
    rintro e w1 ⟨he, q, rfl⟩
    cases hh : headL (l.drop k) with
    | none =>
      rw [hh] at he
      subst he
      have hnil : ∀ W, (binOp .eql 32 (.slice none 0 0) (.slice none 0 0)).run Try.prog W = .ok (.bool true) W := fun W => by
        rw [Lib.run_eql_slice_nil W _ _ none 0 0 0 0 Try.underlying32]; rfl
      have HH := Lib.hid hh
      clear hh
      go_wp2_with fail
      go_ret2
      have := HSC.out.done HH.out
      rw [this]
      exact OutT.of rfl ⟨hro.outer, hro.inner, hro.apart⟩ (below_drawn hbw q)
    | some b =>
      rw [hh] at he
      subst he
      have hb := headL_body hh
      have hb0 := (bodyB_iff.1 hb.1).1
      obtain ⟨m, hm⟩ : ∃ m, b.length = m := ⟨_, rfl⟩
      have hsub2 : At encI 1 (wr.drewN q) (sub (sub A c k 1) (c - k) 1 1) b := by
        have := (hsub.drewN q).sub (c := c - k) (lo := 1) (m := b.length) (by rw [HDL.out]; omega) (by have := hb.2.1; omega)
        rwa [← hb.2.2.1] at this
      have hnx := HSC.out.next hh
      rw [HL.out, hm] at hnx
      rw [hm] at hb0
      have HM := Lib.hid hm
      have HNX := Lib.hid hnx.1
      have hnl := hnx.2
      clear hnx hh hb
      have hnil : ∀ W, (binOp .eql 32 (.slice (sub (sub A c k 1) (c - k) 1 1) m (c - k - 1)) (.slice none 0 0)).run Try.prog W = .ok (.bool false) W := fun W => by
        rw [Lib.run_eql_slice_nil W _ _ _ _ _ 0 0 Try.underlying32, hsub2.addr (by rw [HM.out]; omega)]; rfl
      dsimp only
      rw [hm]
      clear hm
      go_wp2_with fail
      refine (cloneInts_any _ m _ b _ HM.out (by omega) (by omega) hsub2).mono ?_
      rintro e w2 ⟨A2, c2, rfl, ho2, hb2⟩
      rw [HM.out] at ho2 ⊢
      have hbq : Below wr.heap.size wr w2 := below_step (below_drawn (Below.refl _ _) q) hb2
      have hz2' := hbq.size
      have hz0' := hbw.size
      have hro2 := hro.belowS hbq
      have ho2' := ho2.alloc (.cells #[.slice A2 m c2] 32)
      have hroA := hro2.outer.alloc (.cells #[.slice A2 m c2] 32)
      have hn2 := at_new (enc := encR) w2 encR_len [⟨A2, c2, b⟩] 32 #[.slice A2 m c2] (by simp [encR, HM.out]) (show 1 ≤ maxLen by decide)
      go_wp2_with (at_builtin; refine wpList_append_at _ rfl _ _ 39 rfl w.heap.size 32 j0 (.slice none 0 0) 1 24 Try.underlying39 ji jz0 jz1 jz2 rfl (by decide) _ rows.length _ rfl hroA encR_len encR_one _ 1 1 [⟨A2, c2, b⟩] rfl rfl hn2 (by unfold maxLen; omega) (by omega) (by simp; omega) ?_; intro v3 w3 ho3 hg3 hv3)
      go_roundw
      case rel =>
        refine ⟨k + (m + 2), rows ++ [⟨A2, c2, b⟩], by go_num, by omega, by simp; omega, by rw [List.map_append]; exact HNX.out, ?_, ?_⟩
        · refine Rows1.push hro (below_alloc hbq _) hz0' ?_ ho3 hg3
          show World.ownsRow _ _ _ _ (.slice A2 b.length c2) b.length _
          rw [HM.out]; exact ho2'
        · exact below_app (below_alloc (below_step hbw hbq) _) hg3 (own_ge hro.outer)
      case measure => simp [intOf]; omega
end Go.Proofs.Ytnlgpjloedoebaa
