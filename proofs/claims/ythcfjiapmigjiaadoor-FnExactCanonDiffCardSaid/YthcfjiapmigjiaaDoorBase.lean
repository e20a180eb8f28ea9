/- Words for memory: a slice that reads as a list of elements of k cells each (At), and small laws on them. No program in sight. -/
import Derived.WalkKit
import Derived.WalkSpells
import Derived.WalkLawsBesides
import Derived.Lib.Hide
namespace Go.Proofs.YthcfjiapmigjiaaDoor
open Go.RowKit

def blk (A : Option Addr) : Nat := (A.getD ⟨0, 0, none⟩).block
def off (A : Option Addr) : Nat := (A.getD ⟨0, 0, none⟩).off

@[simp] theorem blk_some (g o : Nat) : blk (some ⟨g, o, none⟩) = g := rfl
@[simp] theorem off_some (g o : Nat) : off (some ⟨g, o, none⟩) = o := rfl

/-- The address A holds the list l, element by element, k cells each. -/
structure At {α : Type} (enc : α → List Value) (k : Nat) (w : World) (A : Option Addr) (l : List α) : Prop where
  addr : 0 < l.length → A = some ⟨blk A, off A, none⟩
  lt : 0 < l.length → blk A < w.heap.size
  cell : ∀ j (hj : j < l.length) r u, (enc l[j])[r]? = some u → w.cell? ⟨blk A, off A + j * k + r, none⟩ = some u

def encI (z : Int) : List Value := [.int .i64 z]
def encS (s : ByteArray) : List Value := [.string s]

section
variable {α : Type} {enc : α → List Value} {k : Nat} {w w' : World} {A : Option Addr} {l : List α}

theorem At.nil (A : Option Addr) : At enc k w A ([] : List α) := ⟨fun h => absurd h (by simp), fun h => absurd h (by simp), fun _ hj => absurd hj (by simp)⟩

theorem At.keep (h : At enc k w A l) (hs : w.heap.size ≤ w'.heap.size) (hk : 0 < l.length → w'.heap[blk A]? = w.heap[blk A]?) : At enc k w' A l := by
  refine ⟨h.addr, fun hl => Nat.lt_of_lt_of_le (h.lt hl) hs, fun j hj r u hu => ?_⟩
  rw [World.cell?_of_block (w := w) (a := ⟨blk A, off A + j * k + r, none⟩) (hk (by omega))]
  exact h.cell j hj r u hu
theorem At.below {B : Nat} (h : At enc k w A l) (hb : Below B w w') (hB : 0 < l.length → blk A < B) : At enc k w' A l :=
  h.keep hb.size fun hl => hb.block _ (hB hl)
theorem At.belowS (h : At enc k w A l) (hb : Below w.heap.size w w') : At enc k w' A l := h.below hb h.lt
theorem At.drewN (h : At enc k w A l) (n : Nat) : At enc k (w.drewN n) A l := ⟨h.addr, h.lt, h.cell⟩
theorem At.grown {row : Option Nat} (h : At enc k w A l) (hg : w.grownBy w' row) (hne : 0 < l.length → some (blk A) ≠ row) : At enc k w' A l :=
  h.keep hg.size fun hl => hg.block _ (h.lt hl) (hne hl)
theorem At.cell1 (h : At enc 1 w A l) {j : Nat} (hj : j < l.length) {u : Value} (hu : enc l[j] = [u]) : w.cell? ⟨blk A, off A + j, none⟩ = some u := by
  have := h.cell j hj 0 u (by rw [hu]; rfl)
  simpa using this

/-- The cells of a list of elements, one behind the other. -/
theorem flat_get (hk : ∀ x, (enc x).length = k) : ∀ (l : List α) (j r : Nat) (hj : j < l.length) (_ : r < k), (l.flatMap enc)[j * k + r]? = (enc l[j])[r]?
  | [], j, r, hj, _ => absurd hj (by simp)
  | x :: l, 0, r, _, hr => by
    rw [List.flatMap_cons, Nat.zero_mul, Nat.zero_add, List.getElem?_append_left (by rw [hk]; exact hr)]; rfl
  | x :: l, j + 1, r, hj, hr => by
    have e : (j + 1) * k + r - k = j * k + r := by rw [Nat.succ_mul]; omega
    rw [List.flatMap_cons, List.getElem?_append_right (by rw [hk, Nat.succ_mul]; omega), hk, e, flat_get hk l j r (by simpa using hj) hr]; rfl
theorem flat_len (hk : ∀ x, (enc x).length = k) (l : List α) : (l.flatMap enc).length = l.length * k := by
  induction l with
  | nil => simp
  | cons x l ih => simp [List.flatMap_cons, ih, hk, Nat.succ_mul]; omega

/-- What the call owns reads as a list. -/
theorem own_form {base : Nat} {e : TypeId} {v : Value} {n : Nat} {cs : List Value} (h : w.ownsRow base e k v n cs) : ∃ A c, v = .slice A n c ∧ n ≤ c ∧ c ≤ maxLen ∧ (0 < n → A = some ⟨blk A, 0, none⟩ ∧ base ≤ blk A ∧ blk A < w.heap.size) := by
  rcases h.2 with ⟨rfl, rfl⟩ | ⟨g, cap, cur, rfl, hg, hh, h1, h2, _⟩
  · exact ⟨none, 0, rfl, Nat.le_refl _, Nat.zero_le _, fun h => absurd h (by omega)⟩
  · refine ⟨some ⟨g, 0, none⟩, cap, rfl, h1, h2, fun _ => ⟨rfl, hg, ?_⟩⟩
    rcases Nat.lt_or_ge g w.heap.size with hl | hl
    · exact hl
    · rw [Array.getElem?_eq_none hl] at hh; cases hh
theorem own_at {base : Nat} {e : TypeId} {n c : Nat} (hk : ∀ x, (enc x).length = k) (h : w.ownsRow base e k (.slice A n c) n (l.flatMap enc)) (hn : l.length = n) : At enc k w A l := by
  obtain ⟨A', c', hv, _, _, hA⟩ := own_form h
  injection hv with hv1 _ _
  subst hv1
  subst hn
  refine ⟨fun hl => ?_, fun hl => (hA hl).2.2, fun j hj r u hu => ?_⟩
  · have := (hA hl).1
    rw [this]; rfl
  · obtain ⟨ha, _, _⟩ := hA (by omega)
    have hr : r < k := by
      have := (List.getElem?_eq_some_iff.1 hu).1
      rwa [hk] at this
    rw [ha] at h
    have ho : off A = 0 := by rw [ha]; rfl
    have hlt : j * k + r < l.length * k := by
      have : (j + 1) * k ≤ l.length * k := Nat.mul_le_mul_right _ (by omega)
      rw [Nat.succ_mul] at this; omega
    rw [ho, Nat.zero_add, h.cellAt _ hlt, flat_get hk l j r hj hr, hu]
end

/-- 's[i]' at a slice whose address is a letter. -/
theorem run_index_any {P : Program} {t e : TypeId} {i : TypeInfo} {k : Nat} (ht : P.underlying t = some (.slice e)) (hi : P.info? e = some i) (hk : i.size = k) {A : Option Addr} {n c j : Nat} (hA : A = some ⟨blk A, off A, none⟩) (hj : j < n) (w : World) :
    (Instr.indexAt t (.slice A n c) (.int .i64 (j : Int))).run P w = .ok (.pointer (some ⟨blk A, off A + j * k, none⟩)) w := by
  generalize blk A = b at hA ⊢
  generalize off A = o at hA ⊢
  subst hA
  have hcond : (0 : Int) ≤ (j : Int) ∧ (j : Int) < (n : Int) := ⟨by omega, by omega⟩
  simp [Instr.indexAt, run_underlying ht, asIntOf, hj, sizeOf, typeInfo, hi, hk]
  by_cases h0 : j * k = 0
  · simp [Addr.add, h0]
  · simp [Addr.add, h0]

/-- The first k elements are written, the rest is whatever. -/
def Part {α : Type} (enc : α → List Value) (k : Nat) (l : List α) (i : Nat) (cs : List Value) : Prop :=
  i ≤ l.length ∧ ∃ rest : List Value, rest.length = (l.length - i) * k ∧ cs = (l.take i).flatMap enc ++ rest
theorem Part.zero {α : Type} {enc : α → List Value} {k : Nat} {l : List α} {cs : List Value} (h : cs.length = l.length * k) : Part enc k l 0 cs :=
  ⟨Nat.zero_le _, cs, by simpa using h, by simp⟩
theorem Part.all {α : Type} {enc : α → List Value} {k : Nat} {l : List α} {cs : List Value} (h : Part enc k l l.length cs) : cs = l.flatMap enc := by
  obtain ⟨_, rest, hr, rfl⟩ := h
  have : rest = [] := List.eq_nil_of_length_eq_zero (by simpa using hr)
  subst this
  simp
theorem take_snoc' {α : Type} (l : List α) (i : Nat) (hi : i < l.length) : l.take (i + 1) = l.take i ++ [l[i]] := by
  rw [List.take_add_one, List.getElem?_eq_getElem hi]; rfl
theorem Part.set1 {α : Type} {enc : α → List Value} {l : List α} {i : Nat} {cs : List Value} (h : Part enc 1 l i cs) (h1 : ∀ x, (enc x).length = 1) (hi : i < l.length) {u : Value} (hu : enc l[i] = [u]) : Part enc 1 l (i + 1) (cs.set i u) := by
  obtain ⟨_, rest, hr, rfl⟩ := h
  refine ⟨hi, rest.tail, by simp [hr]; omega, ?_⟩
  have hl : ((l.take i).flatMap enc).length = i := by rw [flat_len h1, List.length_take]; omega
  cases rest with
  | nil => simp at hr; omega
  | cons r rest =>
    rw [List.set_append_right _ _ (by omega), hl, Nat.sub_self, take_snoc' l i hi, List.flatMap_append]
    simp [hu]

/-- 's[i]' at elements of one cell. -/
theorem run_index_one {P : Program} {t e : TypeId} {i : TypeInfo} (ht : P.underlying t = some (.slice e)) (hi : P.info? e = some i) (hk : i.size = 1) {A : Option Addr} {n c j : Nat} (hA : A = some ⟨blk A, off A, none⟩) (hj : j < n) (w : World) :
    (Instr.indexAt t (.slice A n c) (.int .i64 (j : Int))).run P w = .ok (.pointer (some ⟨blk A, off A + j, none⟩)) w := by
  have := run_index_any ht hi hk hA hj w (c := c)
  rwa [Nat.mul_one] at this

theorem ret_bool {b b' : Bool} (h : b = b') : Ending.returned (.bool b) = .returned (.bool b') := by rw [h]
theorem ret_int {k : IntKind} {a b : Int} (h : a = b) : Ending.returned (.int k a) = .returned (.int k b) := by rw [h]

theorem only_drewN {a w : World} {row : Option Nat} (h : a.grownBy w row) (n : Nat) : a.grownBy (w.drewN n) row := ⟨h.os, h.tape, h.output, h.size, h.block⟩
theorem only_drew {a w : World} {row : Option Nat} (h : a.grownBy w row) : a.grownBy w.drew row := ⟨h.os, h.tape, h.output, h.size, h.block⟩
theorem only_alloc {a w : World} {row : Option Nat} (h : a.grownBy w row) (o : Obj) : a.grownBy (w.alloc o) row :=
  ⟨h.os, h.tape, h.output, Nat.le_trans h.size (by simp), fun i hi hne => (Below.heap_alloc w o i (Nat.lt_of_lt_of_le hi h.size)).trans (h.block i hi hne)⟩
theorem only_setCell {a w : World} {g : Nat} (h : a.grownBy w (some g)) {p : Addr} (hp : p.block = g ∨ a.heap.size ≤ p.block) (u : Value) : a.grownBy (w.setCell p u) (some g) :=
  ⟨h.os, h.tape, h.output, by simpa [World.setCell] using h.size, fun i hi hne => (Below.heap_setCell w p u i (by
    rintro rfl
    rcases hp with hp | hp
    · exact hne (by rw [hp])
    · omega)).trans (h.block i hi hne)⟩
theorem only_of_below {a w : World} (h : Below a.heap.size a w) (row : Option Nat) : a.grownBy w row := ⟨h.os, h.tape, h.output, h.size, fun i hi _ => h.block i hi⟩

/-- The one block that is written: none where there is no element. -/
def rowOf (A : Option Addr) (n : Nat) : Option Nat := if n = 0 then none else some (blk A)
theorem rowOf_pos {A : Option Addr} {n : Nat} (h : n ≠ 0) : rowOf A n = some (blk A) := if_neg h

/-- Behind a call that only makes memory: all old cells and marks read as before. -/
theorem bcell {W w1 : World} (hb : Below W.heap.size W w1) : (∀ b o, b < W.heap.size → w1.cell? ⟨b, o, none⟩ = W.cell? ⟨b, o, none⟩) ∧ (∀ b o, b < W.heap.size → w1.frozen? ⟨b, o, none⟩ = W.frozen? ⟨b, o, none⟩) :=
  ⟨fun b o h => hb.cell (p := ⟨b, o, none⟩) h, fun b o h => hb.frozen (p := ⟨b, o, none⟩) h⟩

/-- The steps by which a call's end is below its start. -/
theorem below_step {w W w1 : World} (h : Below w.heap.size w W) (k : Below W.heap.size W w1) : Below w.heap.size w w1 := h.trans (k.mono h.size)
theorem below_step2 {w W w1 : World} (k : Below W.heap.size W w1) (h : Below w.heap.size w W) : Below w.heap.size w w1 := below_step h k
theorem below_alloc {w W : World} (h : Below w.heap.size w W) (o : Obj) : Below w.heap.size w (W.alloc o) := h.alloc h.size o
theorem below_drawn {w W : World} (h : Below w.heap.size w W) (n : Nat) : Below w.heap.size w (W.drewN n) := below_drewN h n
theorem below_drew1 {w W : World} (h : Below w.heap.size w W) : Below w.heap.size w W.drew := h.drew
theorem below_set {w W : World} (h : Below w.heap.size w W) {p : Addr} (hp : w.heap.size ≤ p.block) (u : Value) : Below w.heap.size w (W.setCell p u) := h.setCell hp u

theorem rowOf_ne {b : Nat} {A : Option Addr} {n : Nat} (h : b ≠ blk A) : some b ≠ rowOf A n := by
  unfold rowOf
  split
  · exact fun h => by cases h
  · exact fun h' => by injection h' with h'; exact h h'
theorem rowOf_ne' {b : Nat} {A : Option Addr} {n : Nat} (h : 0 < n → b ≠ blk A) : some b ≠ rowOf A n := by
  unfold rowOf
  split
  · exact fun h => by cases h
  · exact fun h' => by injection h' with h'; exact h (by omega) h'
/-- The block of an owned slice lies between the owner's base and the heap's end. -/
theorem own_blk {w : World} {base : Nat} {e : TypeId} {k n m c : Nat} {A : Option Addr} {cs : List Value} (h : w.ownsRow base e k (.slice A m c) n cs) (hn : 0 < n) : base ≤ blk A ∧ blk A < w.heap.size := by
  obtain ⟨A', c', hv, _, _, hA⟩ := own_form h
  injection hv with hv1 _ _
  subst hv1
  exact (hA hn).2
/-- A write into an elder block leaves an owned slice as it was. -/
theorem own_far {w w' : World} {base : Nat} {e : TypeId} {k n : Nat} {v : Value} {B : Option Addr} {nb : Nat} {cs : List Value} (h : w.ownsRow base e k v n cs) (hg : w.grownBy w' (rowOf B nb)) (hB : blk B < base) : w'.ownsRow base e k v n cs := by
  refine h.kept hg ?_
  rcases h.2 with ⟨hv, _⟩ | ⟨g, cap, cur, hv, hb, _⟩
  · rw [hv]; exact .inl rfl
  · rw [hv]; exact .inr (rowOf_ne (b := g) (by omega))
theorem own_belowS {w w' : World} {base : Nat} {e : TypeId} {k n : Nat} {v : Value} {cs : List Value} (h : w.ownsRow base e k v n cs) (hb : Below w.heap.size w w') : w'.ownsRow base e k v n cs := by
  rcases h.2 with ⟨hv, hn⟩ | ⟨g, cap, cur, hv, hg, hh, r⟩
  · exact ⟨h.1, .inl ⟨hv, hn⟩⟩
  · refine ⟨h.1, .inr ⟨g, cap, cur, hv, hg, ?_, r⟩⟩
    rw [hb.block g]
    · exact hh
    · rcases Nat.lt_or_ge g w.heap.size with hl | hl
      · exact hl
      · rw [Array.getElem?_eq_none hl] at hh; cases hh
/-- What a comparison of two slices says. -/
def SameB {α : Type} [DecidableEq α] (xs ys : List α) (w : World) (e : Ending) (w' : World) : Prop := e = .returned (.bool (decide (xs = ys))) ∧ Below w.heap.size w w'
theorem sameB_refl {α : Type} [DecidableEq α] {xs ys : List α} (h : xs = ys) {w : World} {e : Ending} {w' : World} (hs : SameB xs ys w e w') : e = .returned (.bool true) ∧ Below w.heap.size w w' :=
  ⟨hs.1.trans (by rw [decide_eq_true h]), hs.2⟩
theorem below_only {w w1 w2 : World} (h : Below w.heap.size w w1) {row : Option Nat} (hg : w1.grownBy w2 row) (hr : ∀ g, row = some g → w.heap.size ≤ g) : Below w.heap.size w w2 := h.grown hg h.size hr
theorem rowOf_ge {B : Nat} {A : Option Addr} {n : Nat} (h : 0 < n → B ≤ blk A) : ∀ g, rowOf A n = some g → B ≤ g := by
  unfold rowOf
  split
  · exact fun g h => by cases h
  · exact fun g h' => by injection h' with h'; rw [← h']; exact h (by omega)

/-- A block that is known whole. -/
def Blk (w : World) (g : Nat) (t : TypeId) (cs : Array Value) : Prop := w.heap[g]? = some (.cells cs t (0, 0))
section
variable {w w' : World} {g : Nat} {t : TypeId} {cs : Array Value}
theorem Blk.lt (h : Blk w g t cs) : g < w.heap.size := by
  rcases Nat.lt_or_ge g w.heap.size with hlt | hge
  · exact hlt
  · unfold Blk at h; rw [Array.getElem?_eq_none hge] at h; cases h
theorem Blk.cell (h : Blk w g t cs) (i : Nat) : w.cell? ⟨g, i, none⟩ = cs[i]? := cell_of_row w g i cs t (0, 0) h
theorem Blk.frozen (h : Blk w g t cs) (i : Nat) : w.frozen? ⟨g, i, none⟩ = false := by
  unfold Blk at h
  simp [World.frozen?, h]
theorem Blk.new (w : World) (t : TypeId) (cs : Array Value) : Blk (w.alloc (.cells cs t)) w.heap.size t cs := heap_alloc_new w _
theorem Blk.drewN (h : Blk w g t cs) (n : Nat) : Blk (w.drewN n) g t cs := h
theorem Blk.alloc (h : Blk w g t cs) (o : Obj) : Blk (w.alloc o) g t cs := (Below.heap_alloc w o g h.lt).trans h
theorem Blk.set_ (h : Blk w g t cs) (i : Nat) (u : Value) : Blk (w.setCell ⟨g, i, none⟩ u) g t (cs.setIfInBounds i u) := by
  unfold Blk at h ⊢
  simp [World.setCell, Array.getElem?_modify, h]
theorem Blk.far (h : Blk w g t cs) {p : Addr} (hp : g ≠ p.block) (u : Value) : Blk (w.setCell p u) g t cs := (Below.heap_setCell w p u g hp).trans h
theorem Blk.belowS (h : Blk w g t cs) (hb : Below w.heap.size w w') : Blk w' g t cs := (hb.block g h.lt).trans h
theorem Blk.grown {row : Option Nat} (h : Blk w g t cs) (hb : w.grownBy w' row) (hg : some g ≠ row) : Blk w' g t cs := (hb.block g h.lt hg).trans h
end
/-- Two steps, each of which writes one and the same old block. -/
theorem grown_two {a b c : World} {row : Option Nat} (h : a.grownBy b row) (k : b.grownBy c row) : a.grownBy c row :=
  ⟨k.os.trans h.os, k.tape.trans h.tape, k.output.trans h.output, Nat.le_trans h.size k.size, fun i hi hne => (k.block i (Nat.lt_of_lt_of_le hi h.size) hne).trans (h.block i hi hne)⟩
theorem grown_set {a b : World} {row : Option Nat} (h : a.grownBy b row) {p : Addr} (hp : a.heap.size ≤ p.block) (u : Value) : a.grownBy (b.setCell p u) row :=
  ⟨h.os, h.tape, h.output, by simpa [World.setCell] using h.size, fun i hi hne => (Below.heap_setCell b p u i (by rintro rfl; omega)).trans (h.block i hi hne)⟩

theorem own_farG {w w' : World} {base g : Nat} {e : TypeId} {k n : Nat} {v : Value} {cs : List Value} (h : w.ownsRow base e k v n cs) (hg : w.grownBy w' (some g)) (hB : g < base) : w'.ownsRow base e k v n cs := by
  refine h.kept hg ?_
  rcases h.2 with ⟨hv, _⟩ | ⟨b, cap, cur, hv, hb, _⟩
  · rw [hv]; exact .inl rfl
  · rw [hv]; exact .inr (fun he => by simp [Value.ownBlock] at he; omega)

theorem grown_own {a b c : World} {row row' : Option Nat} (h : a.grownBy b row) (k : b.grownBy c row') (hr : ∀ x, row' = some x → a.heap.size ≤ x) : a.grownBy c row :=
  ⟨k.os.trans h.os, k.tape.trans h.tape, k.output.trans h.output, Nat.le_trans h.size k.size, fun i hi hne => (k.block i (Nat.lt_of_lt_of_le hi h.size) (fun he => by have := hr i he.symm; omega)).trans (h.block i hi hne)⟩

theorem own_mono {w : World} {b b' : Nat} {e : TypeId} {k : Nat} {v : Value} {n : Nat} {cs : List Value} (h : w.ownsRow b e k v n cs) (hb : b' ≤ b) : w.ownsRow b' e k v n cs := by
  refine ⟨h.1, ?_⟩
  rcases h.2 with h2 | ⟨g, cap, cur, hv, hg, r⟩
  · exact .inl h2
  · exact .inr ⟨g, cap, cur, hv, by omega, r⟩


/-- A row of a table: a slice of integers. -/
structure RowI where
  A : Option Addr
  c : Nat
  zs : List Int
def encR (r : RowI) : List Value := [.slice r.A r.zs.length r.c]

end Go.Proofs.YthcfjiapmigjiaaDoor
