/- Small contracts for the laws on tables of frames. -/
import Derived.Test.YtnlgpjloedoebaaDraw5
import Derived.Test.YtnlgpjloedoebaaTables2
namespace Go.Proofs.Ytnlgpjloedoebaa
open Go.RowKit
set_option linter.unusedVariables false
set_option linter.unusedSimpArgs false

theorem sameInts_t (A B : Option Addr) (n c d : Nat) (xs ys : List Int) (w : World) (he : xs = ys) (hn : n ≤ 140737488355328) (hx : xs.length = n) (ha : At encI 1 w A xs) (hb : At encI 1 w B ys) :
    Calls Try.prog 32 #[.slice A n c, .slice B n d] w fun e w' => e = .returned (.bool true) ∧ Below w.heap.size w w' :=
  (sameInts_any A B n n c d xs ys w hn hx (by rw [← he]; exact hx) ha hb).mono fun _ _ ⟨h, q, hq⟩ => ⟨h.trans (by rw [decide_eq_true he]), by subst hq; exact below_drawn (Below.refl _ _) q⟩
theorem sameTable_t (A B : Option Addr) (n c d : Nat) (ra rb : List RowI) (w : World) (he : ra.map (·.zs) = rb.map (·.zs)) (hn : n ≤ 140737488355328) (hx : ra.length = n) (ha : TabAt w A ra) (hb : TabAt w B rb) (hla : ∀ r ∈ ra, r.zs.length ≤ 140737488355328) :
    Calls Try.prog 43 #[.slice A n c, .slice B n d] w fun e w' => e = .returned (.bool true) ∧ Below w.heap.size w w' :=
  (sameTable_any A B n n c d ra rb w hn hx (by have := congrArg List.length he; simp at this; omega) ha hb hla).mono fun _ _ ⟨h, q, hq⟩ => ⟨h.trans (by rw [decide_eq_true he]), by subst hq; exact below_drawn (Below.refl _ _) q⟩
theorem TabAt.take {w : World} {A : Option Addr} {rows : List RowI} (h : TabAt w A rows) {c m : Nat} (hl : rows.length ≤ c) (hm : m ≤ rows.length) : TabAt w A (rows.take m) := ⟨h.outer.take hl hm, fun r hr => h.inner r (List.mem_of_mem_take hr)⟩
theorem TabAt.drop {w : World} {A : Option Addr} {rows : List RowI} (h : TabAt w A rows) {c m : Nat} (hl : rows.length ≤ c) (hm : m ≤ rows.length) : TabAt w (sub A c m 1) (rows.drop m) := by
  refine ⟨?_, fun r hr => h.inner r (List.mem_of_mem_drop hr)⟩
  have := h.outer.sub (c := c) (lo := m) (m := rows.length - m) hl (by omega)
  rwa [List.take_of_length_le (by rw [List.length_drop]; exact Nat.le_refl _)] at this
theorem len_of_map {ra rb : List RowI} (h : ra.map (·.zs) = rb.map (·.zs)) : ra.length = rb.length := by have := congrArg List.length h; simpa using this
section
variable {P : Program} (w : World)
/-- append onto a row of the call's own, where the operation is guarded and its guard holds. -/
theorem wpList_append_on {ops : Array Oper} {rest : List Oper} {o : Oper} {a : Act} {Q : Exit → Act → World → Prop} (hgd : Region.wanted o (yielded ops a.tmps) = true) (s x : Operand) (t : TypeId)
    (ho : o.op = .call { callee := .builtin .append, args := #[s, x], argTypes := #[t, t] })
    (base : Nat) (e : TypeId) (i : TypeInfo) (z : Value) (k bytes : Nat) (ht : P.underlying t = some (.slice e)) (hi : P.info? e = some i) (hz : i.zero = some z)
    (hsize : i.size = k) (hby : i.bytes = bytes) (hzs : z.cells.size = k) (hsz : 0 < k)
    (v : Value) (n : Nat) (xs : List Value) (hs : a.eval s = v) (hown : w.ownsRow base e k v n xs)
    {α : Type} {enc : α → List Value} (hk : ∀ x, (enc x).length = k) (h1 : ∀ x, ∀ u ∈ enc x, u.oneCell' = true) (A : Option Addr) (m c : Nat) (ys : List α) (hx : a.eval x = .slice A m c) (hm : ys.length = m) (hr : At enc k w A ys)
    (h63 : n + m ≤ maxLen) (hbytes : (n + m) * bytes ≤ 140737488355328) (hbase : base ≤ w.heap.size)
    (h : ∀ v' w', w'.ownsRow base e k v' (n + m) (xs ++ ys.flatMap enc) → w.grownBy w' v.ownBlock → (v'.ownBlock = v.ownBlock ∨ v'.ownBlock = some w.heap.size) → wpList P ops Q rest (a.put o.dst v') w') : wpList P ops Q (o :: rest) a w :=
  wpList_step fun K hK => by
    rw [if_pos hgd]
    exact wp_append_at w s x t ho base e i z k bytes ht hi hz hsize hby hzs hsz v n xs hs hown hk h1 A m c ys hx hm hr h63 hbytes hbase fun v' w' h2 h3 h4 => hK _ _ (h v' w' h2 h3 h4)
end
end Go.Proofs.Ytnlgpjloedoebaa
