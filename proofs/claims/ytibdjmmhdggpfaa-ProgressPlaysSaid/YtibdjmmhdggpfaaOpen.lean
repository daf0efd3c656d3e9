/-
  How an argument that came in lies in memory: slices of whatever elements, structs field by field. Over any program.
-/
import Derived.ProofKit
import Derived.Deep.Slices
namespace Go.Proofs.Ytibdjmmhdggpfaa.opens
set_option linter.unusedVariables false
set_option linter.unusedSimpArgs false
open Go.ChangeShapes Go.WideShapes Go.ChangeAt Go.RowKit

section
variable {H : Type} {enc : TypeId × Value → H} {P : Program} {w : World} {base : Nat} {spare : Nat → Bool} {held : Bool}

theorem cells_get {a : Addr} {n : Nat} {cs : List Value} (h : w.cells? base a n = some cs) : cs.length = n ∧ ∀ j, j < n → ∃ v, cs[j]? = some v ∧ w.cell? (a.add j) = some v := by
  obtain ⟨_, hl, hc⟩ := World.cells?_some h
  exact ⟨hl, fun j hj => ⟨cs[j]'(by omega), by simp [hl, hj], by have := hc j hj; simpa [hl, hj] using this⟩⟩

/-- Element i of a slice: where it lies, and how it reads. -/
def ElemAt (enc : TypeId × Value → H) (P : Program) (w : World) (base : Nat) (spare : Nat → Bool) (held : Bool) (e : TypeId) (a : Option Addr) (i : Nat) : Prop :=
  ∃ b o, a = some ⟨b, o, none⟩ ∧ ∃ (cs : List Value) (n : Nat) (y : DataW H × List MemPlace), cs.length = P.cellsOf e ∧
    (∀ j, j < P.cellsOf e → ∃ v, cs[j]? = some v ∧ w.cell? ⟨b, o + i * P.cellsOf e + j, none⟩ = some v) ∧ DataW.trod enc P w base spare held n e cs = some y

theorem slice_elems {t e : TypeId} {fuel : Nat} {a : Option Addr} {len cap : Nat} {x : DataW H × List MemPlace} (ht : P.underlying t = some (.slice e)) (hpos : 0 < P.cellsOf e)
    (h : DataW.trod enc P w base spare held fuel t [.slice a len cap] = some x) :
    len ≤ cap ∧ cap ≤ maxLen ∧ (a = none → len = 0 ∧ cap = 0) ∧ ∀ i, i < len → ElemAt enc P w base spare held e a i := by
  rcases Go.Deep.open_slice ht h with ⟨hcs, _⟩ | ⟨a', len', cap', m, n, D, Pl, hcs, hb, hl, hm, hmm, _, hx⟩
  · simp at hcs
    obtain ⟨rfl, rfl, rfl⟩ := hcs
    exact ⟨Nat.le_refl _, Nat.zero_le _, fun _ => ⟨rfl, rfl⟩, fun i hi => absurd hi (Nat.not_lt_zero _)⟩
  · simp at hcs
    obtain ⟨rfl, rfl, rfl⟩ := hcs
    refine ⟨hl, hm, fun h => by simp at h, fun i hi => ?_⟩
    obtain ⟨b, o, sp⟩ := a'
    have hi' : i < m := by rw [hmm]; split <;> omega
    obtain ⟨cs0, hcs0, _⟩ := hx 0 (by omega)
    obtain ⟨_, hg0⟩ := cells_get hcs0
    obtain ⟨v0, _, hv0⟩ := hg0 0 hpos
    have hsp : sp = none := by simpa [Addr.add] using World.cell?_spot hv0
    subst hsp
    obtain ⟨cs, hcs, htr⟩ := hx i hi'
    obtain ⟨hlen, hg⟩ := cells_get hcs
    refine ⟨b, o, rfl, cs, n, _, hlen, fun j hj => ?_, htr⟩
    obtain ⟨v, hv, hc⟩ := hg j hj
    refine ⟨v, hv, ?_⟩
    rw [Addr.add_lit, Addr.add_lit] at hc
    exact hc

/-- The cells of a struct, field by field. -/
theorem struct_field {t : TypeId} {fs : Array Field} {fuel : Nat} {cs : List Value} {x : DataW H × List MemPlace} (ht : P.underlying t = some (.struct fs)) (h : DataW.trod enc P w base spare held fuel t cs = some x)
    (i : Nat) (f : Field) (hf : fs[i]? = some f) : ∃ n y, DataW.trod enc P w base spare held n f.type ((cs.drop f.offset).take (P.cellsOf f.type)) = some y := by
  obtain ⟨xs, n, _, _, _, hl, hx⟩ := DataW.trod_struct ht h
  have hi : i < fs.size := by
    rcases Nat.lt_or_ge i fs.size with h' | h'
    · exact h'
    · simp [Array.getElem?_eq_none h'] at hf
  exact ⟨n, xs[i]'(by omega), by rw [hx i f hf]; simp [hl, hi]⟩

theorem drop_take_one {cs : List Value} {k : Nat} {v : Value} (h : (cs.drop k).take 1 = [v]) : cs[k]? = some v := by
  have := congrArg (·[0]?) h
  simpa [List.getElem?_take, List.getElem?_drop] using this

/-- A field that is a whole number. -/
theorem field_int {t : TypeId} {fs : Array Field} {fuel : Nat} {cs : List Value} {x : DataW H × List MemPlace} {k : IntKind} (ht : P.underlying t = some (.struct fs)) (h : DataW.trod enc P w base spare held fuel t cs = some x)
    (i : Nat) (f : Field) (hf : fs[i]? = some f) (hk : P.underlying f.type = some (.int k)) (hc : P.cellsOf f.type = 1) : ∃ n, cs[f.offset]? = some (.int k n) ∧ (Lit.int k n).wf = true := by
  obtain ⟨m, y, hy⟩ := struct_field ht h i f hf
  rw [hc] at hy
  obtain ⟨n, hn, _, hw⟩ := DataW.trod_int hk hy
  exact ⟨n, drop_take_one hn, hw⟩

/-- A field that is a bool. -/
theorem field_bool {t : TypeId} {fs : Array Field} {fuel : Nat} {cs : List Value} {x : DataW H × List MemPlace} (ht : P.underlying t = some (.struct fs)) (h : DataW.trod enc P w base spare held fuel t cs = some x)
    (i : Nat) (f : Field) (hf : fs[i]? = some f) (hk : P.underlying f.type = some .bool) (hc : P.cellsOf f.type = 1) : ∃ n, cs[f.offset]? = some (.bool n) := by
  obtain ⟨m, y, hy⟩ := struct_field ht h i f hf
  rw [hc] at hy
  obtain ⟨n, hn, _⟩ := DataW.trod_bool hk hy
  exact ⟨n, drop_take_one hn⟩
end
end Go.Proofs.Ytibdjmmhdggpfaa.opens
