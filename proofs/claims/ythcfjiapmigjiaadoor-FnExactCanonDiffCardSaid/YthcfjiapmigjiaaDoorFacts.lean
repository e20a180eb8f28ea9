/- Closed facts on the program's head words, each from the head's text split into signs once. -/
import Derived.Test.YthcfjiapmigjiaaDoorRows
import Derived.JoinedOf
import Derived.KernelRfl
namespace Go.Proofs.YthcfjiapmigjiaaDoor

theorem head_eq : Tryd.prog.initOrder = "harness 239097fecdbada8d3fe2599ba39d176009717941513284d600a38aeef5ead396 cut at loop.example/filereconciler/laws.FnExactCanonDiff loop.example/filereconciler/laws.FnExactLogCanon loop.example/filereconciler/laws.FnExactCanonJoin" := rfl
set_option maxRecDepth 100000 in
theorem two_of {l : List (List Char)} {x : List Char} (h : l.head? = some x) : ∃ rest, l = x :: rest := by
  cases l with
  | nil => cases h
  | cons y r => injection h with h; exact ⟨r, by rw [h]⟩
set_option maxRecDepth 100000 in
theorem words_head : (behindMainWord (wordsSigns Tryd.prog.initOrder.toList)).head? = some "cut".toList := by
  rw [head_eq, show ("harness 239097fecdbada8d3fe2599ba39d176009717941513284d600a38aeef5ead396 cut at loop.example/filereconciler/laws.FnExactCanonDiff loop.example/filereconciler/laws.FnExactLogCanon loop.example/filereconciler/laws.FnExactCanonJoin" : String) = String.ofList _ from rfl, String.toList_ofList]
  kernel_rfl
theorem words_eq : ∃ rest, behindMainWord (wordsSigns Tryd.prog.initOrder.toList) = "cut".toList :: rest := two_of words_head
theorem strip_cut (rest : List (List Char)) : stripLifts liftWords ("cut".toList :: rest) = ([], "cut".toList :: rest) := by kernel_rfl
theorem lifts_of {P : Program} {rest : List (List Char)} (h : behindMainWord (wordsSigns P.initOrder.toList) = "cut".toList :: rest) : P.headLifts = [] := by
  unfold Program.headLifts
  rw [h, strip_cut]
  kernel_rfl
theorem final_of {P : Program} {rest : List (List Char)} (h : behindMainWord (wordsSigns P.initOrder.toList) = "cut".toList :: rest) : P.liftsFinal = false := by
  unfold Program.liftsFinal
  rw [h, lifts_of h]
  kernel_rfl
theorem make_of {P : Program} {rest : List (List Char)} (h : behindMainWord (wordsSigns P.initOrder.toList) = "cut".toList :: rest) : P.make = some .cut := by
  unfold Program.make
  rw [h, lifts_of h]
  kernel_rfl
theorem enter_of {P : Program} {rest : List (List Char)} (h : behindMainWord (wordsSigns P.initOrder.toList) = "cut".toList :: rest) (h1 : P.laysLater = false) (h2 : P.bearsReflect = false) (h3 : P.doorFits [] = true) : P.mayEnter = true := by
  unfold Program.mayEnter
  rw [h]
  dsimp only
  rw [strip_cut, h1, h2]
  dsimp only
  rw [h3]
  kernel_rfl
theorem final_eq : Tryd.prog.liftsFinal = false := by
  obtain ⟨rest, h⟩ := words_eq
  exact final_of h
theorem make_eq : Tryd.prog.make = some .cut := by
  obtain ⟨rest, h⟩ := words_eq
  exact make_of h
theorem enter_eq : Tryd.prog.mayEnter = true := by
  obtain ⟨rest, h⟩ := words_eq
  exact enter_of h (by kernel_rfl) (by kernel_rfl) (by kernel_rfl)
theorem own : ownKnob Tryd.prog.godebug = none := by kernel_rfl
theorem laidOut : laidOutB Tryd.prog = true := by kernel_rfl

end Go.Proofs.YthcfjiapmigjiaaDoor
