/- The walk of the exact law on FramesScan: both texts' tables are one; nothing is shared. -/
import Derived.Test.YtnlgpjloedoebaaTables
import Derived.Test.YtnlgpjloedoebaaScanS
import Derived.Test.YtnlgpjloedoebaaOpen
namespace Go.Proofs.Ytnlgpjloedoebaa
open Go.RowKit
set_option linter.unusedVariables false

/-- A table whose blocks are elder than B. -/
structure TabIn (B : Nat) (w : World) (A : Option Addr) (rows : List RowI) : Prop where
  tab : TabAt w A rows
  out : 0 < rows.length → blk A < B
  ins : ∀ r ∈ rows, 0 < r.zs.length → blk r.A < B
theorem TabAt.in_ {w : World} {A : Option Addr} {rows : List RowI} (h : TabAt w A rows) : TabIn w.heap.size w A rows := ⟨h, h.outer.lt, fun r hr => (h.inner r hr).lt⟩
theorem TabIn.below {B B' : Nat} {w w' : World} {A : Option Addr} {rows : List RowI} (h : TabIn B w A rows) (hb : Below B' w w') (hB : B ≤ B') : TabIn B w' A rows :=
  ⟨⟨h.tab.outer.below hb fun hl => Nat.lt_of_lt_of_le (h.out hl) hB, fun r hr => (h.tab.inner r hr).below hb fun hl => Nat.lt_of_lt_of_le (h.ins r hr hl) hB⟩, h.out, h.ins⟩
theorem Rows1.far {w w' : World} {base : Nat} {v : Value} {rows : List RowI} {B : Option Addr} {nb : Nat} (h : Rows1 w base v rows) (hg : w.grownBy w' (rowOf B nb)) (hB : blk B < base) : Rows1 w' base v rows :=
  ⟨own_far h.outer hg hB, fun r hr => own_far (h.inner r hr) hg hB, h.apart⟩
theorem below_row {w w' : World} {B : Nat} {A : Option Addr} {n : Nat} (hg : w.grownBy w' (rowOf A n)) (hB : B ≤ w.heap.size) (h : 0 < n → B ≤ blk A) : Below B w w' := (Below.refl B w).grown hg hB (rowOf_ge h)

theorem scanGo_tot : ∀ (f : Nat) (l : List Int), ((scanGo f l).1.map List.length).sum + 2 * (scanGo f l).1.length = (scanGo f l).2 ∧ (scanGo f l).2 ≤ l.length
  | 0, l => by simp [scanGo]
  | f + 1, l => by
    cases h : headL l with
    | none => simp [scanGo, h]
    | some b =>
      have ih := scanGo_tot f (l.drop (b.length + 2))
      have hb := (headL_body h).2.1
      simp only [scanGo, h, List.map_cons, List.sum_cons, List.length_cons]
      rw [List.length_drop] at ih
      omega
theorem scanL_tot (l : List Int) : ((scanL l).1.map List.length).sum + 2 * (scanL l).1.length = (scanL l).2 ∧ (scanL l).2 ≤ l.length := scanGo_tot _ l
theorem totR_eq {rows : List RowI} {bs : List (List Int)} (h : rows.map (·.zs) = bs) : totR rows = (bs.map List.length).sum ∧ rows.length = bs.length := by
  subst h
  exact ⟨by unfold totR; rw [List.map_map]; rfl, by simp⟩
theorem le_totR {rows : List RowI} : ∀ r ∈ rows, r.zs.length ≤ totR rows := by
  induction rows with
  | nil => intro r hr; simp at hr
  | cons p t ih =>
    intro r hr
    have e : totR (p :: t) = p.zs.length + totR t := by simp [totR]
    rcases List.mem_cons.1 hr with rfl | hr
    · omega
    · have := ih r hr; omega
def SameTB (xs ys : List (List Int)) (w : World) (e : Ending) (w' : World) : Prop := e = .returned (.bool (decide (xs = ys))) ∧ Below w.heap.size w w'
theorem eqIntSS_b (A B : Option Addr) (n m c d : Nat) (ra rb : List RowI) (w : World) (hn : n ≤ 1048576) (hx : ra.length = n) (hy : rb.length = m) (ha : TabAt w A ra) (hb : TabAt w B rb) (ht : totR ra ≤ 1048576) (he : ra.map (·.zs) = rb.map (·.zs)) :
    Calls Try.prog 38 #[.slice A n c, .slice B m d] w fun e w' => e = .returned (.bool true) ∧ Below w.heap.size w w' :=
  (eqIntSS_any A B n m c d ra rb w (by omega) hx hy ha hb (fun r hr => by have := le_totR r hr; omega)).mono fun _ _ ⟨h, q, hq⟩ => ⟨h.trans (by rw [decide_eq_true he]), by subst hq; exact below_drawn (Below.refl _ _) q⟩

set_option maxHeartbeats 2000000 in
theorem walk_FnExactFramesScan (A : Option Addr) (n c : Nat) (l : List Int) (hl : l.length = n) (hnc : n ≤ c) (hcm : c ≤ maxLen) (w : World) (ha : At encI 1 w A l) (hw : ∀ u ∈ l, (Lit.int .i64 u).wf = true) :
    Calls Try.prog 11 #[.slice A n c] w fun e w' => e = .returned (.bool true) ∧ Below w.heap.size w w' := by
  have HL := Lib.hid hl
  clear hl
  by_cases hbig : 1048576 < n
  · go_enter Try.func11, Try.ntmps11
    go_wp2
    go_ret
    exact ⟨rfl, Below.refl _ _⟩
  have hn : n ≤ 1048576 := by omega
  clear hbig
  have hb64 : ∀ z ∈ l, -9223372036854775808 ≤ z ∧ z ≤ 9223372036854775807 := fun z hz => bounds_i64 (hw z hz)
  have hr := scanL_tot l
  rw [HL.out] at hr
  obtain ⟨bs, K, hF⟩ : ∃ bs K, scanL l = (bs, K) := ⟨_, _, rfl⟩
  have HF := Lib.hid hF
  rw [hF] at hr
  clear hF
  obtain ⟨hr1, hr2⟩ := hr
  dsimp only at hr1 hr2
  have HR1 := Lib.hid hr1
  clear hr1
  go_enter Try.func11, Try.ntmps11
  go_wp2_with fail
  refine (toIntS_any A n c l _ (by omega) HL.out ha).mono ?_
  rintro e w1 ⟨g1, rfl, ho1, hb1⟩
  have ha1 := ha.belowS hb1
  go_wp2_with fail
  refine (specScan_any _ n n l _ HL.out (Nat.le_refl _) (by omega) (own_at encI_len ho1 HL.out) hb64 hn).mono ?_
  rw [HF.out]
  rintro e w2 ⟨rW, AW, cW, rfl, hW, ho2, hb2⟩
  have ha2 := ha1.belowS hb2
  have bw2 := below_step (below_step (Below.refl _ _) hb1) hb2
  have hlW := (totR_eq hW).2
  dsimp only at hlW hW
  obtain ⟨nb, hnbe⟩ : ∃ nb, rW.length = nb := ⟨_, rfl⟩
  have hnb3 : nb ≤ 1048576 := by have := HR1.out; omega
  have HWn := Lib.hid hnbe
  have HBn := Lib.hid (hlW.symm.trans hnbe)
  have HW := Lib.hid hW
  rw [hnbe] at ho2 ⊢
  clear hlW hnbe hW
  have tW2 := (ho2.tab HWn.out).in_
  go_wp2_with fail
  refine (toIntS_any A n c l _ (by omega) HL.out ha2).mono ?_
  rintro e w3 ⟨g3, rfl, ho3, hb3⟩
  have ha3 := ha2.belowS hb3
  have hbl3 := ho3.lt g3 rfl
  have tW3 := tW2.below hb3 (Nat.le_refl _)
  have hz3 := hb3.size
  go_wp2_with fail
  refine (implScan_any _ n n l _ HL.out (Nat.le_refl _) (by omega) (own_at encI_len ho3 HL.out) hb64 hn).mono ?_
  rw [HF.out]
  rintro e w4 ⟨rG, AG, cG, rfl, hG, ho4, hb4⟩
  have ha4 := ha3.belowS hb4
  have tW4 := tW3.below hb4 hz3
  have hx4 := own_belowS ho3 hb4
  have hlG := (totR_eq hG).2
  have htG := (totR_eq hG).1
  dsimp only at hlG htG hG
  have htb2 : totR rG ≤ 1048576 := by have := HR1.out; omega
  have hGn : rG.length = nb := hlG.trans HBn.out
  have HG := Lib.hid hG
  have HGn := Lib.hid hGn
  rw [hGn] at ho4 ⊢
  clear hlG htG hG hGn
  have bw4 : Below w.heap.size w w4 := below_step (below_step bw2 hb3) hb4
  have hz4 := hb4.size
  have hEQ : rG.map (·.zs) = rW.map (·.zs) := HG.out.trans HW.out.symm
  have HEQ := Lib.hid hEQ
  clear hEQ
  go_wp2_with fail
  refine (eqIntSS_b _ _ nb _ _ _ rG rW _ (by omega) HGn.out HWn.out (ho4.tab HGn.out) tW4.tab htb2 HEQ.out).mono ?_
  rintro e w5 ⟨rfl, hb5⟩
  have bw5 := below_step bw4 hb5
  have ha5 := ha4.belowS hb5
  have hz5 := hb5.size
  have tW5 := tW4.below hb5 (by omega)
  have hG5 := ho4.belowS hb5
  have owX5 := own_belowS hx4 hb5
  go_wp2_with fail
  refine (toIntS_any A n c l _ (by omega) HL.out ha5).mono ?_
  rintro e w6 ⟨g6, rfl, ho6, hb6⟩
  have bw6 := below_step bw5 hb6
  have ha6 := ha5.belowS hb6
  have hz6 := hb6.size
  have tW6 := tW5.below hb6 (by omega)
  have hG6 := hG5.belowS hb6
  have owX6 := own_belowS owX5 hb6
  go_wp2_with fail
  refine (eqIntS_b _ _ _ _ _ _ _ _ _ (by omega) HL.out HL.out (own_at encI_len owX6 HL.out) (own_at encI_len ho6 HL.out)).mono ?_
  rintro e w7 hs7
  obtain ⟨rfl, hb7⟩ := sameB_refl rfl hs7
  have bw7 := below_step bw6 hb7
  have ha7 := ha6.belowS hb7
  have hz7 := hb7.size
  have tW7 := tW6.below hb7 (by omega)
  have hG7 := hG6.belowS hb7
  have owX7 := own_belowS owX6 hb7
  go_wp2_with fail
  refine (markIntS_any _ n n 1 _ _ _ (by omega) (by omega) (by omega) owX7).mono ?_
  rintro e w8 ⟨rfl, owX8, hg8⟩
  have hzw2 := bw2.size
  have hb8 : Below w2.heap.size w7 w8 := below_row hg8 (by omega) (fun _ => hbl3.1)
  have hb8' : Below w.heap.size w7 w8 := hb8.mono hzw2
  have bw8 : Below w.heap.size w w8 := bw7.trans hb8'
  have ha8 : At encI 1 w8 A l := ha7.below hb8' ha.lt
  have hz8 := hg8.size
  have tW8 := tW7.below hb8 (Nat.le_refl _)
  have hG8 := hG7.far hg8 (show g3 < w3.heap.size from hbl3.2)
  go_wp2_with fail
  refine (eqIntSS_b _ _ nb _ _ _ rG rW _ (by omega) HGn.out HWn.out (hG8.tab HGn.out) tW8.tab htb2 HEQ.out).mono ?_
  rintro e w9 ⟨rfl, hb9⟩
  have bw9 := below_step bw8 hb9
  have ha9 := ha8.belowS hb9
  have hz9 := hb9.size
  have tW9 := tW8.below hb9 (by omega)
  have hG9 := hG8.belowS hb9
  go_wp2_with fail
  refine (markIntSS_any _ nb _ 1 rG _ _ (by omega) (by omega) (by omega) HGn.out htb2 (by omega) hG9).mono ?_
  rintro e w10 ⟨rfl, hG10, hb10⟩
  have hzw3 : w.heap.size ≤ w3.heap.size := by omega
  have hb10' : Below w.heap.size w9 w10 := hb10.mono hzw3
  have bw10 : Below w.heap.size w w10 := bw9.trans hb10'
  have ha10 : At encI 1 w10 A l := ha9.below hb10' ha.lt
  have hz10 := hb10.size
  have tW10 := tW9.below hb10 hz3
  have tG10 := hG10.tab ((markR_len _ _).trans HGn.out)
  go_wp2_with fail
  refine (heldIntSS_any _ nb _ 1 rG _ (by omega) (by omega) (by omega) HGn.out htb2 tG10).mono ?_
  rintro e w11 ⟨rfl, hb11⟩
  have bw11 := below_step bw10 hb11
  have ha11 := ha10.belowS hb11
  have hz11 := hb11.size
  have tW11 := tW10.below hb11 (by omega)
  have tG11 := tG10.belowS hb11
  go_wp2_with fail
  refine (toIntS_any A n c l _ (by omega) HL.out ha11).mono ?_
  rintro e w12 ⟨g12, rfl, ho12, hb12⟩
  have bw12 := below_step bw11 hb12
  have hz12 := hb12.size
  have tW12 := tW11.below hb12 (by omega)
  have tG12 := tG11.belowS hb12
  go_wp2_with fail
  refine (implScan_any _ n n l _ HL.out (Nat.le_refl _) (by omega) (own_at encI_len ho12 HL.out) hb64 hn).mono ?_
  rw [HF.out]
  rintro e w13 ⟨rH, AH, cH, rfl, hH, ho13, hb13⟩
  have bw13 := below_step bw12 hb13
  have hz13 := hb13.size
  have tW13 := tW12.below hb13 (by omega)
  have tG13 := tG12.belowS hb13
  have hlH := (totR_eq hH).2
  have htH := (totR_eq hH).1
  dsimp only at hlH htH hH
  have hH1 := HR1.out
  have hEQ2 : rH.map (·.zs) = rW.map (·.zs) := hH.trans HW.out.symm
  have hHn : rH.length = nb := hlH.trans HBn.out
  have htH2 : totR rH ≤ 1048576 := by omega
  have HEQ2 := Lib.hid hEQ2
  have HHn := Lib.hid hHn
  rw [hHn] at ho13 ⊢
  clear hlH htH hH hH1 hEQ2 hHn
  go_wp2_with fail
  refine (eqIntSS_b _ _ nb _ _ _ rH rW _ hnb3 HHn.out HWn.out (ho13.tab HHn.out) tW13.tab htH2 HEQ2.out).mono ?_
  rintro e w14 ⟨rfl, hb14⟩
  have bw14 := below_step bw13 hb14
  have tG14 := tG13.belowS hb14
  go_wp2_with fail
  refine (heldIntSS_any _ nb _ 1 rG _ (by omega) (by omega) (by omega) HGn.out htb2 tG14).mono ?_
  rintro e w15 ⟨rfl, hb15⟩
  have bw15 := below_step bw14 hb15
  go_wp2
  go_ret
  exact ⟨rfl, bw15⟩
end Go.Proofs.Ytnlgpjloedoebaa
