/- Commands and nodes that came in, opened. -/
import Derived.Test.YthcfjiapmigjiaaDoorProg
import Derived.Test.YthcfjiapmigjiaaDoorOpen
import Derived.ChangeSame
import Derived.Deep.Strs
import Derived.Deep.Fields
import Derived.KernelRfl
namespace Go.Proofs.YthcfjiapmigjiaaDoor
open Go Go.Deep Go.ChangeShapes Go.WideShapes Go.ChangeAt Go.RowKit
set_option linter.unusedVariables false
set_option maxRecDepth 20000

/-- A command; a node. -/
structure Cmd where
  p : ByteArray
  x : Int
  y : Int
  z : Int
  u : Int
structure Nod where
  p : ByteArray
  x : Int
  y : Int
def encK (c : Cmd) : List Value := [.string c.p, .int .i64 c.x, .int .i64 c.y, .int .i64 c.z, .int .i64 c.u]
def encN (c : Nod) : List Value := [.string c.p, .int .i64 c.x, .int .i64 c.y]
def Cmd.wf (c : Cmd) : Prop := c.p.size ≤ maxLen ∧ (Lit.int .i64 c.x).wf = true ∧ (Lit.int .i64 c.y).wf = true ∧ (Lit.int .i64 c.z).wf = true ∧ (Lit.int .i64 c.u).wf = true
def Nod.wf (c : Nod) : Prop := c.p.size ≤ maxLen ∧ (Lit.int .i64 c.x).wf = true ∧ (Lit.int .i64 c.y).wf = true
theorem encK_len (c : Cmd) : (encK c).length = 5 := rfl
theorem encN_len (c : Nod) : (encN c).length = 3 := rfl
theorem encK_one (c : Cmd) : ∀ u ∈ encK c, u.oneCell' = true := by intro u hu; simp [encK] at hu; rcases hu with rfl | rfl | rfl | rfl | rfl <;> rfl
theorem encN_one (c : Nod) : ∀ u ∈ encN c, u.oneCell' = true := by intro u hu; simp [encN] at hu; rcases hu with rfl | rfl | rfl <;> rfl

section
variable {H : Type} {en : TypeId × Value → H} {P : Program} {w : World} {base : Nat} {spare : Nat → Bool} {held : Bool} {fuel : Nat} {cs : List Value} {y : DataW H × List MemPlace}

theorem trod_content {t : TypeId} {g0 g1 : Field} (hs : P.underlying t = some (.struct #[g0, g1])) (hone : oneCellFields P #[g0, g1] = true) (hC : P.cellsOf t = 2) (h0 : P.underlying g0.type = some (.int .i64)) (h1 : P.underlying g1.type = some (.int .i64))
    (h : DataW.trod en P w base spare held fuel t cs = some y) : ∃ a b : Int, cs = [.int .i64 a, .int .i64 b] ∧ (Lit.int .i64 a).wf = true ∧ (Lit.int .i64 b).wf = true := by
  obtain ⟨y0, y1, n, hx, hl, ha, hb⟩ := trod_struct2 hs h
  obtain ⟨o0, k0⟩ := hone_of hone 0 g0 rfl
  obtain ⟨o1, k1⟩ := hone_of hone 1 g1 rfl
  rw [hC] at hl
  match cs, hl with
  | [c0, c1], _ =>
    obtain ⟨a, ha', _, wa⟩ := DataW.trod_int h0 (by simpa [o0, k0] using ha)
    obtain ⟨b, hb', _, wb⟩ := DataW.trod_int h1 (by simpa [o1, k1] using hb)
    injection ha' with ha' _
    injection hb' with hb' _
    subst ha'; subst hb'
    exact ⟨a, b, rfl, wa, wb⟩
theorem trod_node {t : TypeId} {f0 f1 g0 g1 : Field} (hs : P.underlying t = some (.struct #[f0, f1])) (ho : (f0.offset, f1.offset) = (0, 1)) (hk : (P.cellsOf f0.type, P.cellsOf f1.type, P.cellsOf t) = (1, 2, 3)) (h0 : P.underlying f0.type = some .string)
    (hs1 : P.underlying f1.type = some (.struct #[g0, g1])) (hone : oneCellFields P #[g0, g1] = true) (hg0 : P.underlying g0.type = some (.int .i64)) (hg1 : P.underlying g1.type = some (.int .i64))
    (h : DataW.trod en P w base spare held fuel t cs = some y) : ∃ c : Nod, cs = encN c ∧ c.wf := by
  obtain ⟨y0, y1, n, hx, hl, ha, hb⟩ := trod_struct2 hs h
  simp only [Prod.mk.injEq] at ho hk
  obtain ⟨o0, o1⟩ := ho
  obtain ⟨k0, k1, k2⟩ := hk
  rw [k2] at hl
  match cs, hl with
  | [c0, c1, c2], _ =>
    obtain ⟨s, hs', _, ws⟩ := DataW.trod_string h0 (by simpa [o0, k0] using ha)
    obtain ⟨a, b, hab, wa, wb⟩ := trod_content hs1 hone k1 hg0 hg1 (by simpa [o1, k1] using hb)
    simp at hs' hab
    obtain ⟨rfl, rfl⟩ := hab
    subst hs'
    exact ⟨⟨s, a, b⟩, rfl, ws, wa, wb⟩
theorem trod_command {t : TypeId} {f0 f1 f2 g0 g1 : Field} (hs : P.underlying t = some (.struct #[f0, f1, f2])) (ho : (f0.offset, f1.offset, f2.offset) = (0, 1, 3)) (hk : (P.cellsOf f0.type, P.cellsOf f1.type, P.cellsOf f2.type, P.cellsOf t) = (1, 2, 2, 5)) (h0 : P.underlying f0.type = some .string)
    (hs1 : P.underlying f1.type = some (.struct #[g0, g1])) (hs2 : P.underlying f2.type = some (.struct #[g0, g1])) (hone : oneCellFields P #[g0, g1] = true) (hg0 : P.underlying g0.type = some (.int .i64)) (hg1 : P.underlying g1.type = some (.int .i64))
    (h : DataW.trod en P w base spare held fuel t cs = some y) : ∃ c : Cmd, cs = encK c ∧ c.wf := by
  obtain ⟨y0, y1, y2, n, hx, hl, ha, hb, hc⟩ := trod_struct3 hs h
  simp only [Prod.mk.injEq] at ho hk
  obtain ⟨o0, o1, o2⟩ := ho
  obtain ⟨k0, k1, k2, k3⟩ := hk
  rw [k3] at hl
  match cs, hl with
  | [c0, c1, c2, c3, c4], _ =>
    obtain ⟨s, hs', _, ws⟩ := DataW.trod_string h0 (by simpa [o0, k0] using ha)
    obtain ⟨a, b, hab, wa, wb⟩ := trod_content hs1 hone k1 hg0 hg1 (by simpa [o1, k1] using hb)
    obtain ⟨c, d, hcd, wc, wd⟩ := trod_content hs2 hone k2 hg0 hg1 (by simpa [o2, k2] using hc)
    simp at hs' hab hcd
    obtain ⟨rfl, rfl⟩ := hab
    obtain ⟨rfl, rfl⟩ := hcd
    subst hs'
    exact ⟨⟨s, a, b, c, d⟩, rfl, ws, wa, wb, wc, wd⟩
end
section
variable {H : Type} {en : TypeId × Value → H} {w : World} {base : Nat} {spare : Nat → Bool} {held : Bool} {r : Reach} {b0 : Nat} {v : Value} {d : DataW H} {p : List MemPlace}
theorem open_command (hv : Value.okWide Tryd.prog w r b0 64 v) (h : DataW.Trod en Tryd.prog w base spare held 64 v d p) : ∃ (s : ByteArray) (x y z u : Int), v = .agg #[.string s, .int .i64 x, .int .i64 y, .int .i64 z, .int .i64 u] ∧ s.size ≤ maxLen ∧ (Lit.int .i64 x).wf = true ∧ (Lit.int .i64 y).wf = true ∧ (Lit.int .i64 z).wf = true ∧ (Lit.int .i64 u).wf = true := by
 obtain ⟨cs, rfl, _⟩ := okWide_struct Tryd.underlying64 hv
 obtain ⟨fuel, hf⟩ := h
 obtain ⟨c, hc, h1, h2, h3, h4, h5⟩ := trod_command Tryd.underlying64 (by kernel_rfl) (by kernel_rfl) Tryd.underlying9 Tryd.underlying43 Tryd.underlying43 (by kernel_rfl) Tryd.underlying3 Tryd.underlying3 hf
 have hc' : cs = (encK c).toArray := by rw [← hc]; simp [Value.cells]
 subst hc'
 exact ⟨c.p, c.x, c.y, c.z, c.u, rfl, h1, h2, h3, h4, h5⟩
theorem open_commands {t : TypeId} {A : Option Addr} {n c fuel : Nat} {x : DataW H × List MemPlace} (ht : Tryd.prog.underlying t = some (.slice 64)) (h : DataW.trod en Tryd.prog w base spare held fuel t [.slice A n c] = some x) :
   ∃ l : List Cmd, l.length = n ∧ n ≤ c ∧ c ≤ maxLen ∧ At encK 5 w A l ∧ ∀ u ∈ l, u.wf :=
 open_list (by omega) ht (by kernel_rfl) encK _ (fun m cs y hy => trod_command Tryd.underlying64 (by kernel_rfl) (by kernel_rfl) Tryd.underlying9 Tryd.underlying43 Tryd.underlying43 (by kernel_rfl) Tryd.underlying3 Tryd.underlying3 hy) h
theorem open_nodes {t : TypeId} {A : Option Addr} {n c fuel : Nat} {x : DataW H × List MemPlace} (ht : Tryd.prog.underlying t = some (.slice 45)) (h : DataW.trod en Tryd.prog w base spare held fuel t [.slice A n c] = some x) :
   ∃ l : List Nod, l.length = n ∧ n ≤ c ∧ c ≤ maxLen ∧ At encN 3 w A l ∧ ∀ u ∈ l, u.wf :=
 open_list (by omega) ht (by kernel_rfl) encN _ (fun m cs y hy => trod_node Tryd.underlying45 (by kernel_rfl) (by kernel_rfl) Tryd.underlying9 Tryd.underlying43 (by kernel_rfl) Tryd.underlying3 Tryd.underlying3 hy) h
end
end Go.Proofs.YthcfjiapmigjiaaDoor
