/-
  A map of the call's own, told as a function from keys to what is stored there: lookups, stores, deletions, its length, ranging over it. Over any program.
-/
import Derived.Maps.RangeWalk
import Derived.Maps.Views
import Derived.Maps.OwnSet
import Derived.WalkKit
import Derived.Deep.QuietTactic
namespace Go.Proofs.Ytibdjmmhdggpfaa.fmap
set_option linter.unusedVariables false
set_option linter.unusedSimpArgs false
open Go Go.RowKit Go.Maps

/-- How an element is read here: as itself. -/
def held (v : Value) : Option (DataW Value × List MemPlace) := some (.held v, [])
def unheld : DataW Value → Value
  | .held v => v
  | _ => undef
/-- What is stored at a key. -/
def view (D : DataW Value) (kl : Lit) : Option Value := if Maps.has D kl then some (unheld (D.atKey kl .nil)) else none

open Classical in
/-- f, but v at one key. -/
noncomputable def fput (f : Lit → Option Value) (kl : Lit) (v : Option Value) : Lit → Option Value := fun x => if x = kl then v else f x
theorem fput_same (f : Lit → Option Value) (kl : Lit) (v : Option Value) : fput f kl v kl = v := by simp [fput]
theorem fput_other (f : Lit → Option Value) {kl x : Lit} (v : Option Value) (h : x ≠ kl) : fput f kl v x = f x := by simp [fput, h]

/-- Block b is a map with the entries f, at most n of them. -/
def FM (w : World) (P : Program) (k : TypeId) (b n : Nat) (f : Lit → Option Value) : Prop := ∃ D : DataW Value, w.ownsMap P k held b n D ∧ f = view D

section
variable {w w' : World} {P : Program} {k e t : TypeId} {b n : Nat} {f : Lit → Option Value}

theorem atKey_has {D : DataW Value} {kl : Lit} (h : Maps.has D kl = true) (z z' : DataW Value) : D.atKey kl z = D.atKey kl z' := by
  cases D <;> try (cases h; done)
  rename_i es
  obtain ⟨p, hp, hpk⟩ := List.any_eq_true.1 h
  have hs : (es.find? (fun p => p.1.sameKey kl)).isSome = true := List.find?_isSome.2 ⟨p, hp, hpk⟩
  obtain ⟨x, hx⟩ := Option.isSome_iff_exists.1 hs
  simp [DataW.atKey, hx]

theorem FM.made (w : World) (P : Program) (k : TypeId) : FM (w.alloc (.map #[] 0)) P k w.heap.size 0 (fun _ => none) :=
  ⟨.map [], World.ownsMap_made _ _ _ _, by funext x; simp [view, Maps.has]⟩
theorem FM.lt (h : FM w P k b n f) : b < w.heap.size := let ⟨_, h, _⟩ := h; h.lt
theorem FM.mono (h : FM w P k b n f) {n' : Nat} (hn : n ≤ n') : FM w P k b n' f := let ⟨D, h, e⟩ := h; ⟨D, h.mono hn, e⟩
theorem FM.kept {row : Option Nat} (h : FM w P k b n f) (hg : w.grownBy w' row) (hne : row ≠ some b) : FM w' P k b n f :=
  let ⟨D, h, e⟩ := h; ⟨D, h.kept hg (fun e => hne e.symm), e⟩
theorem FM.of_block (h : FM w P k b n f) (e : w'.heap[b]? = w.heap[b]?) : FM w' P k b n f := by
  obtain ⟨D, ⟨es, clock, hb, r⟩, rfl⟩ := h
  exact ⟨D, ⟨es, clock, e.trans hb, r⟩, rfl⟩
theorem FM.alloc (h : FM w P k b n f) (o : Obj) : FM (w.alloc o) P k b n f := let ⟨D, h, e⟩ := h; ⟨D, h.alloc o, e⟩
theorem FM.drewN (h : FM w P k b n f) (m : Nat) : FM (w.drewN m) P k b n f := let ⟨D, h, e⟩ := h; ⟨D, h, e⟩
theorem FM.drew (h : FM w P k b n f) : FM w.drew P k b n f := let ⟨D, h, e⟩ := h; ⟨D, h, e⟩
theorem FM.setCell (h : FM w P k b n f) {a : Addr} (ha : b ≠ a.block) (u : Value) : FM (w.setCell a u) P k b n f := let ⟨D, h, e⟩ := h; ⟨D, h.setCell ha u, e⟩
theorem FM.block (h : FM w P k b n f) : ∃ es clock, w.heap[b]? = some (.map es clock) := let ⟨_, ⟨es, clock, hb, _⟩, _⟩ := h; ⟨es, clock, hb⟩
theorem FM.cell (h : FM w P k b n f) (a : Addr) (ha : a.block = b) : w.cell? a = none := by
  obtain ⟨es, clock, hb⟩ := h.block
  simp [World.cell?, ha, hb]

/-- 'm[k]'. -/
theorem FM.look (h : FM w P k b n f) (K : Keyed P k) (ht : P.underlying t = some (.map k e)) {z : Value} (hz : (zeroValue e).run P w = .ok z w) {key : Value} {kl : Lit} (hkey : keyOf P k key = some kl) :
    (Instr.lookup t (.map (some b)) key false).run P w = .ok ((f kl).getD z) w := by
  obtain ⟨D, h, rfl⟩ := h
  obtain ⟨v, ps, hrun, hv⟩ := h.lookup K ht hz (zd := .held z) (zp := []) rfl hkey
  rw [hrun]
  have hv' : DataW.held v = D.atKey kl (.held z) := congrArg Prod.fst (Option.some.inj hv)
  unfold view
  cases hh : Maps.has D kl with
  | true => simp [atKey_has hh .nil (.held z), ← hv', unheld]
  | false =>
    rw [atKey_of_not_has hh] at hv'
    cases hv'
    simp

/-- 'v, ok := m[k]'. -/
theorem FM.look_ok (h : FM w P k b n f) (K : Keyed P k) (ht : P.underlying t = some (.map k e)) {z : Value} (hz : (zeroValue e).run P w = .ok z w) {key : Value} {kl : Lit} (hkey : keyOf P k key = some kl) :
    (Instr.lookup t (.map (some b)) key true).run P w = .ok (.tuple #[(f kl).getD z, .bool (f kl).isSome]) w := by
  obtain ⟨D, h, rfl⟩ := h
  obtain ⟨v, ps, hrun, hv⟩ := h.look_ok K ht hz (zd := .held z) (zp := []) rfl hkey
  rw [hrun]
  have hv' : DataW.held v = D.atKey kl (.held z) := congrArg Prod.fst (Option.some.inj hv)
  unfold view
  cases hh : Maps.has D kl with
  | true => simp [atKey_has hh .nil (.held z), ← hv', unheld]
  | false =>
    rw [atKey_of_not_has hh] at hv'
    cases hv'
    simp

theorem view_put {D : DataW Value} (hD : IsMap D) {kl : Lit} (hk : WideAt.IsKeyLit kl) (v : Value) : view (D.put kl (.held v)) = fput (view D) kl (some v) := by
  funext x
  unfold view fput
  by_cases e : x = kl
  · subst e
    simp [has_put_same hD hk, atKey_put_same hD hk, unheld]
  · rw [has_put_other e, atKey_put_other e]
    simp [e]
theorem view_del {D : DataW Value} {kl : Lit} : view (D.del kl) = fput (view D) kl none := by
  funext x
  unfold view fput
  by_cases e : x = kl
  · subst e
    simp [has_del_same]
  · rw [has_del_other e, atKey_del_other e]
    simp [e]

section
variable (w) {ops : Array Oper} {rest : List Oper} {o : Oper} {a : Act} {Q : Exit → Act → World → Prop}

/-- 'm[k] = v'. -/
theorem wpList_store (hg : o.guard = none) (m x v : Operand) (t : TypeId) (hop : o.op = Op.mapUpdate t m x v)
    (k e : TypeId) (K : Keyed P k) (ht : P.underlying t = some (.map k e)) (b n : Nat) (f : Lit → Option Value)
    (hm : a.eval m = .map (some b)) (hown : FM w P k b n f) (hn : n < maxLen) (key val : Value) (kl : Lit) (hx : a.eval x = key) (hv : a.eval v = val) (hkey : keyOf P k key = some kl)
    (hK : ∀ w', FM w' P k b (n + 1) (fput f kl (some val)) → w.grownBy w' (some b) → w'.heap.size = w.heap.size → wpList P ops Q rest (a.put o.dst undef) w') :
    wpList P ops Q (o :: rest) a w := by
  obtain ⟨D, h, rfl⟩ := hown
  exact wpList_mapUpdate_in w hg m x v t hop k e K ht held b n D hm h hn key val kl hx hv hkey (.held val) [] rfl (fun w' h' hg' =>
    hK w' ⟨_, h', (view_put h.isMap (K.key hkey) val).symm⟩ hg'.grown (by obtain ⟨es, clock, es', clock', _, rfl⟩ := hg'; simp [Go.ChangeMaps.setBlock]))

/-- 'delete(m, k)'. -/
theorem wpList_drop (hg : o.guard = none) (m x : Operand) (t k : TypeId) (hop : o.op = Op.call { callee := Callee.builtin Builtin.delete, args := #[m, x], argTypes := #[t, k] })
    (e : TypeId) (K : Keyed P k) (ht : P.underlying t = some (.map k e)) (b n : Nat) (f : Lit → Option Value)
    (hm : a.eval m = .map (some b)) (hown : FM w P k b n f) (key : Value) (kl : Lit) (hx : a.eval x = key) (hkey : keyOf P k key = some kl)
    (hK : ∀ w', FM w' P k b n (fput f kl none) → w.grownBy w' (some b) → w'.heap.size = w.heap.size → wpList P ops Q rest (a.put o.dst (.tuple #[])) w') :
    wpList P ops Q (o :: rest) a w := by
  obtain ⟨D, h, rfl⟩ := hown
  exact wpList_delete_own w hg m x t k hop e K ht held b n D hm h key kl hx hkey (fun w' h' hg' =>
    hK w' ⟨_, h', view_del.symm⟩ hg'.grown (by obtain ⟨es, clock, es', clock', _, rfl⟩ := hg'; simp [Go.ChangeMaps.setBlock]))
end

/-- How many entries a map has, as a list of its keys. -/
structure Keys (f : Lit → Option Value) (ks : List Lit) : Prop where
  nodup : ks.Nodup
  mem : ∀ x, x ∈ ks ↔ (f x).isSome = true

theorem view_keys {D : DataW Value} (h : Tidy D) (hk : ∀ es, D = .map es → ∀ p ∈ es, WideAt.IsKeyLit p.1) : ∃ ks, Keys (view D) ks ∧ ks.length = Maps.size D := by
  obtain ⟨es, rfl, hp⟩ := h
  refine ⟨es.map (·.1), ⟨?_, fun x => ?_⟩, by simp [Maps.size]⟩
  · unfold List.Nodup
    rw [List.pairwise_map]
    exact hp
  · have hh : (view (.map es) x).isSome = Maps.has (.map es) x := by
      unfold view
      cases Maps.has (DataW.map es) x <;> simp
    rw [hh, has_eq, List.any_eq_true]
    constructor
    · intro hx
      obtain ⟨p, hp, rfl⟩ := List.mem_map.1 hx
      exact ⟨p, hp, WideAt.sameKey_self (hk es rfl p hp)⟩
    · rintro ⟨p, hp, hs⟩
      exact List.mem_map.2 ⟨p, hp, WideAt.sameKey_eq hs⟩

/-- 'len(m)'. -/
theorem FM.len (h : FM w P k b n f) (K : Keyed P k) (ht : P.underlying t = some (.map k e)) :
    ∃ ks, Keys f ks ∧ ks.length ≤ n ∧ ∀ ty, (Builtin.len_ #[t] ty #[.map (some b)]).run P w = .ok (.int .i64 ks.length) w := by
  obtain ⟨D, h, rfl⟩ := h
  obtain ⟨es, hes, _, hkl⟩ := h.entries K
  obtain ⟨ks, hks, hl⟩ := view_keys (h.tidy K) (fun es' e p hp => by rw [hes] at e; cases e; exact hkl p hp)
  exact ⟨ks, hks, by rw [hl]; exact h.size_le, fun ty => by rw [hl]; exact h.len ht ty⟩

/-- All keys that are there are keys of the type. -/
theorem FM.key (h : FM w P k b n f) (K : Keyed P k) {kl : Lit} (hk : (f kl).isSome = true) : WideAt.IsKeyLit kl := by
  obtain ⟨D, h, rfl⟩ := h
  obtain ⟨es, rfl, _, hkl⟩ := h.entries K
  have hh : Maps.has (.map es) kl = true := by
    unfold view at hk
    cases hx : Maps.has (DataW.map es) kl <;> simp [hx] at hk ⊢
  obtain ⟨p, hp, hs⟩ := List.any_eq_true.1 hh
  rw [← WideAt.sameKey_eq hs]
  exact hkl p hp

/-- A range over a map is under way: 'left' tells which keys are still to come. -/
def FR (w : World) (P : Program) (k : TypeId) (b r n : Nat) (f : Lit → Option Value) (left : Lit → Bool) (cnt : Nat) : Prop := ∃ D : DataW Value, w.ranges P k held b r n D left cnt ∧ f = view D

variable {r cnt : Nat} {left : Lit → Bool}
theorem FR.owns (h : FR w P k b r n f left cnt) : FM w P k b n f := let ⟨D, h, e⟩ := h; ⟨D, h.owns, e⟩
theorem FR.left_eq (h : FR w P k b r n f left cnt) : w.rangeLeft b r = cnt := let ⟨_, h, _⟩ := h; h.left_eq
theorem FR.ne (h : FR w P k b r n f left cnt) : r ≠ b := let ⟨_, h, _⟩ := h; h.ne
theorem FR.lt (h : FR w P k b r n f left cnt) : r < w.heap.size := let ⟨_, h, _⟩ := h; h.lt
theorem FR.kept {row : Option Nat} (h : FR w P k b r n f left cnt) (hg : w.grownBy w' row) (hb : row ≠ some b) (hr : row ≠ some r) : FR w' P k b r n f left cnt :=
  let ⟨D, h, e⟩ := h; ⟨D, h.kept hg (fun e => hb e.symm) (fun e => hr e.symm), e⟩
theorem FR.alloc (h : FR w P k b r n f left cnt) (o : Obj) : FR (w.alloc o) P k b r n f left cnt := let ⟨D, h, e⟩ := h; ⟨D, h.alloc o, e⟩
theorem FR.drewN (h : FR w P k b r n f left cnt) (m : Nat) : FR (w.drewN m) P k b r n f left cnt := let ⟨D, h, e⟩ := h; ⟨D, h, e⟩

section
variable (w) {ops : Array Oper} {rest : List Oper} {o : Oper} {a : Act} {Q : Exit → Act → World → Prop}

/-- 'range m'. -/
theorem wpList_range (hg : o.guard = none) (m : Operand) (t : TypeId) (hop : o.op = Op.range t m) (k e : TypeId) (K : Keyed P k) (ht : P.underlying t = some (.map k e)) (b n : Nat) (f : Lit → Option Value)
    (hm : a.eval m = .map (some b)) (hown : FM w P k b n f)
    (hK : ∀ w' cnt, FR w' P k b w.heap.size n f (fun x => (f x).isSome) cnt → w.grownBy w' none → w'.heap.size = w.heap.size + 1 → wpList P ops Q rest (a.put o.dst (.pointer (some ⟨w.heap.size, 0, none⟩))) w') :
    wpList P ops Q (o :: rest) a w := by
  obtain ⟨D, h, rfl⟩ := hown
  refine wpList_range_own w hg m t hop k e K ht held b n D hm h (fun w' hr hg' hs => hK w' (Maps.size D) ⟨D, ?_, rfl⟩ hg' hs)
  have e : (fun x => (view D x).isSome) = Maps.has D := by
    funext x
    unfold view
    cases Maps.has D x <;> simp
  rw [e]
  exact hr

/-- The step: keys of an integer kind. -/
theorem wpList_next (hg : o.guard = none) (it : Operand) (hop : o.op = Op.next it false) (k : TypeId) (q : IntKind) (K : Keyed P k) (hk : P.underlying k = some (.int q))
    (b r n : Nat) (f : Lit → Option Value) (left : Lit → Bool) (cnt : Nat) (hit : a.eval it = .pointer (some ⟨r, 0, none⟩)) (h : FR w P k b r n f left cnt)
    (hDone : (∀ kl, left kl = false) → wpList P ops Q rest (a.put o.dst (.tuple #[.bool false])) w)
    (hMore : ∀ (x : Int) (v : Value) (w' : World) (cnt' : Nat), (Lit.int q x).wf = true → left (.int q x) = true → f (.int q x) = some v → FR w' P k b r n f (fun z => left z && !z.sameKey (.int q x)) cnt' → cnt' < cnt →
      w.grownBy w' (some r) → w'.heap.size = w.heap.size → (Instr.entry (.pointer (some ⟨r, 0, none⟩))).run P w' = .ok (.tuple #[.int q x, v]) w' → wpList P ops Q rest (a.put o.dst (.tuple #[.bool true, .int q x, v])) w') :
    wpList P ops Q (o :: rest) a w := by
  obtain ⟨D, h, rfl⟩ := h
  refine wpList_next_ranges w hg it hop k K held (Value.int q) id (fun key kl hkey => by obtain ⟨x, rfl, _⟩ := Maps.keyOf_int_inv hk hkey; exact ⟨x, rfl⟩) (fun v y hv => ⟨v, rfl⟩)
    b r n D left cnt hit h (fun _ hl => hDone hl) (fun x c kl y w' cnt' hkey hlk hv hat hrg hlt hgr hsz hen => ?_)
  obtain ⟨x', ex, rfl, hwx⟩ := Maps.keyOf_int_inv hk hkey
  cases ex
  have hy : y = (.held c, []) := (Option.some.inj hv).symm
  subst hy
  refine hMore x c w' cnt' hwx hlk ?_ ⟨D, hrg, rfl⟩ hlt hgr hsz hen
  unfold view
  rw [Maps.has_true_of_atKey hat, hat .nil]
  rfl
end
end
end Go.Proofs.Ytibdjmmhdggpfaa.fmap
