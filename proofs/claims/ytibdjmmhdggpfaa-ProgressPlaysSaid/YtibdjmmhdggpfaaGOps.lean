/-
  A table of lines: what it tells, and how it lies in memory.
-/
import Derived.Test.YtibdjmmhdggpfaaArgs
import Derived.Test.YtibdjmmhdggpfaaPlaysRel
import Derived.BigRegion
namespace Go.Proofs.Ytibdjmmhdggpfaa
set_option linter.unusedVariables false
set_option linter.unusedSimpArgs false
open Go.RowKit Go.Maps Go.Proofs.YtibdjmmhdggpfaaW.PrintWords Go.Proofs.YtibdjmmhdggpfaaW.PrintMore Go.Proofs.Ytibdjmmhdggpfaa.PPollPlays Go.Proofs.Ytibdjmmhdggpfaa.pure Go.Proofs.Ytibdjmmhdggpfaa.fmap

/-- A line. -/
structure Ln where
  m : Int
  n : Int
  r : Int
  a : Bool
abbrev z0 : Ln := ⟨0, 0, 0, false⟩
/-- The greatest index. -/
def IX : Int := 1152921504606846976
/-- One more than the greatest number. -/
def UU : Int := 18446744073709551616
structure Ln.Ok (x : Ln) : Prop where
  m0 : 0 ≤ x.m
  m1 : x.m ≤ IX
  mn : x.m < x.n
  n1 : x.n ≤ IX + 1
  r0 : 0 ≤ x.r
  r1 : x.r < UU
abbrev Tb := Int → Option Ln
structure TOk (t : Tb) : Prop where
  key : ∀ k x, t k = some x → 0 ≤ k ∧ k ≤ 6
  ok : ∀ k x, t k = some x → x.Ok
/-- The same, but one line. -/
def tput (t : Tb) (k : Int) (x : Ln) : Tb := fun j => if j = k then some x else t j
theorem tput_same (t : Tb) (k : Int) (x : Ln) : tput t k x k = some x := by simp [tput]
theorem tput_other (t : Tb) {j k : Int} (x : Ln) (h : j ≠ k) : tput t k x j = t j := by simp [tput, h]
theorem TOk.put {t : Tb} (h : TOk t) {k : Int} {x : Ln} (hk : 0 ≤ k ∧ k ≤ 6) (hx : x.Ok) : TOk (tput t k x) where
  key := fun j y hj => by
    by_cases e : j = k
    · rw [e]; exact hk
    · rw [tput_other t x e] at hj
      exact h.key j y hj
  ok := fun j y hj => by
    by_cases e : j = k
    · rw [e, tput_same] at hj
      cases hj
      exact hx
    · rw [tput_other t x e] at hj
      exact h.ok j y hj
/-- A line, or none's. -/
def lnz (t : Tb) (k : Int) : Ln := (t k).getD z0

/-- A line's cells. -/
abbrev lc (x : Ln) : Array Value := #[.int .u64 x.m, .int .u64 x.n, .int .u64 x.r, .bool x.a]
/-- What the map of the lines' places holds. -/
def tabf (bl : Int → Nat) (t : Tb) : Lit → Option Value
  | .int .i64 x => if (t x).isSome then some (.pointer (some ⟨bl x, 0, none⟩)) else none
  | _ => none
theorem tabf_none (bl : Int → Nat) : tabf bl (fun _ => none) = fun _ => none := by
  funext kl
  unfold tabf
  split <;> simp
theorem tabf_put (bl : Int → Nat) (t : Tb) (k : Int) (x : Ln) (g : Nat) : fput (tabf bl t) (.int .i64 k) (some (.pointer (some ⟨g, 0, none⟩))) = tabf (fun j => if j = k then g else bl j) (tput t k x) := by
  funext kl
  by_cases e : kl = .int .i64 k
  · subst e
    rw [fput_same]
    simp [tabf, tput_same]
  · rw [fput_other _ _ e]
    unfold tabf
    split
    · next y =>
      have : y ≠ k := fun h => e (by rw [h])
      simp [tput_other t x this, this]
    · rfl
/-- Storing a line that is there leaves the places. -/
theorem tabf_same (bl : Int → Nat) (t : Tb) (k : Int) (x : Ln) (h : (t k).isSome = true) : tabf bl (tput t k x) = tabf bl t := by
  funext kl
  unfold tabf
  split
  · next y =>
    by_cases e : y = k
    · subst e
      simp [tput_same, h]
    · rw [tput_other t x e]
  · rfl

/-- A map of lines has at most seven entries. -/
theorem tight {w : World} {bm n : Nat} {bl : Int → Nat} {t : Tb} (ht : ∀ k, (t k).isSome = true → 0 ≤ k ∧ k ≤ 6) (h : FM w Try.prog 3 bm n (tabf bl t)) : FM w Try.prog 3 bm 7 (tabf bl t) := by
  obtain ⟨D, hown, hv⟩ := h
  obtain ⟨ks, hks, hl⟩ := view_keys (hown.tidy law3) (fun es' e p hp => by obtain ⟨es, hes, _, hkl⟩ := hown.entries law3; rw [hes] at e; cases e; exact hkl p hp)
  have hle : ks.length ≤ 7 := by
    have hsub : ∀ x ∈ ks, x ∈ nodes.map (Lit.int .i64) := fun x hx => by
      have hx' := (hks.mem x).1 hx
      rw [← hv] at hx'
      unfold tabf at hx'
      split at hx'
      · next y =>
        refine List.mem_map.2 ⟨y, mem_nodes.2 (ht y ?_), rfl⟩
        by_cases e : (t y).isSome = true
        · exact e
        · simp [e] at hx'
      · simp at hx'
    have key : ∀ (l m : List Lit), l.Nodup → (∀ x ∈ l, x ∈ m) → l.length ≤ m.length := by
      classical
      intro l
      induction l with
      | nil => intro m _ _; exact Nat.zero_le _
      | cons x l ih =>
        intro m hn hs
        obtain ⟨h1, h2⟩ := List.nodup_cons.1 hn
        have hx : x ∈ m := hs x (by simp)
        obtain ⟨m1, m2, rfl⟩ := List.append_of_mem hx
        have := ih (m1 ++ m2) h2 (fun y hy => by
          have := hs y (by simp [hy])
          simp only [List.mem_append, List.mem_cons] at this ⊢
          rcases this with h | h | h
          · exact .inl h
          · subst h
            exact absurd hy h1
          · exact .inr h)
        simp at this ⊢
        omega
    have := key ks _ hks.nodup hsub
    simpa [nodes] using this
  obtain ⟨es, clock, hb, F, hs, hD⟩ := hown
  refine ⟨D, ⟨es, clock, hb, F, ?_, hD⟩, hv⟩
  have : Maps.size D = es.size := by rw [hD]; simp [Maps.size, length_sorted]
  omega

/-- The blocks that a table writes to. -/
def owns (bm : Nat) (bl : Int → Nat) (t : Tb) (k : Nat) : Prop := k = bm ∨ ∃ j, (t j).isSome = true ∧ bl j = k

/-- A table in block b: its map in bm, its lines in bl; all from block B on. -/
structure TAt (w : World) (B b bm : Nat) (bl : Int → Nat) (t : Tb) : Prop where
  blk : w.heap[b]? = some (.cells #[.map (some bm)] 77 (0, 0))
  map : FM w Try.prog 3 bm 7 (tabf bl t)
  line : ∀ k x, t k = some x → w.heap[bl k]? = some (.cells (lc x) 66 (0, 0))
  inj : ∀ j k, (t j).isSome = true → (t k).isSome = true → bl j = bl k → j = k
  ok : TOk t
  lo : B ≤ b
  los : ∀ k, owns bm bl t k → B ≤ k

section
variable {w w' : World} {B b bm : Nat} {bl : Int → Nat} {t : Tb}
theorem TAt.c0 (h : TAt w B b bm bl t) : w.cell? ⟨b, 0, none⟩ = some (.map (some bm)) := blk_cell h.blk 0
theorem TAt.bmap (h : TAt w B b bm bl t) : ∃ es clock, w.heap[bm]? = some (.map es clock) := h.map.block
theorem TAt.line_ne (h : TAt w B b bm bl t) {k : Int} {x : Ln} (hk : t k = some x) : bl k ≠ bm := by
  intro e
  obtain ⟨es, clock, hb⟩ := h.bmap
  have := h.line k x hk
  rw [e, hb] at this
  cases this
theorem TAt.b_free (h : TAt w B b bm bl t) : ¬ owns bm bl t b := by
  rintro (e | ⟨j, hj, e⟩)
  · obtain ⟨es, clock, hb⟩ := h.bmap
    have := h.blk
    rw [e, hb] at this
    cases this
  · obtain ⟨x, hx⟩ := Option.isSome_iff_exists.1 hj
    have := h.line j x hx
    rw [e, h.blk] at this
    have h2 := congrArg (fun o : Option Obj => match o with | some (.cells c _ _) => c.size | _ => 0) this
    simp at h2
theorem TAt.own_lt (h : TAt w B b bm bl t) {k : Nat} (hk : owns bm bl t k) : k < w.heap.size := by
  rcases hk with rfl | ⟨j, hj, rfl⟩
  · exact h.map.lt
  · obtain ⟨x, hx⟩ := Option.isSome_iff_exists.1 hj
    exact blk_lt (h.line j x hx)
theorem TAt.same (h : TAt w B b bm bl t) (hs : ∀ k, k = b ∨ owns bm bl t k → w'.heap[k]? = w.heap[k]?) : TAt w' B b bm bl t :=
  ⟨(hs b (.inl rfl)).trans h.blk, h.map.of_block (hs bm (.inr (.inl rfl))), fun k x hk => (hs _ (.inr (.inr ⟨k, by rw [hk]; rfl, rfl⟩))).trans (h.line k x hk), h.inj, h.ok, h.lo, h.los⟩
theorem TAt.below (h : TAt w B b bm bl t) (hb : Below w.heap.size w w') : TAt w' B b bm bl t :=
  h.same (fun k hk => hb.block k (by rcases hk with rfl | hk; exact blk_lt h.blk; exact h.own_lt hk))
theorem TAt.drew (h : TAt w B b bm bl t) : TAt w.drew B b bm bl t := h.same (fun _ _ => rfl)
end

/-- What one call does to a table's memory: nothing but its own blocks, and new ones. -/
structure Step (bm : Nat) (bl : Int → Nat) (t : Tb) (bl' : Int → Nat) (t' : Tb) (w w' : World) : Prop where
  os : w'.os = w.os
  tape : w'.tape = w.tape
  output : w'.output = w.output
  size : w.heap.size ≤ w'.heap.size
  keep : ∀ k, k < w.heap.size → ¬ owns bm bl t k → w'.heap[k]? = w.heap[k]?
  new : ∀ k, owns bm bl' t' k → owns bm bl t k ∨ w.heap.size ≤ k
section
variable {w w1 w' : World} {B b bm : Nat} {bl bl' bl2 : Int → Nat} {t t' t2 : Tb}
theorem Step.of_below (hb : Below w.heap.size w w') : Step bm bl t bl t w w' := ⟨hb.os, hb.tape, hb.output, hb.size, fun k hk _ => hb.block k hk, fun _ h => .inl h⟩
theorem Step.trans (h : Step bm bl t bl' t' w w1) (k : Step bm bl' t' bl2 t2 w1 w') : Step bm bl t bl2 t2 w w' :=
  ⟨k.os.trans h.os, k.tape.trans h.tape, k.output.trans h.output, Nat.le_trans h.size k.size,
    fun i hi hn => (k.keep i (Nat.lt_of_lt_of_le hi h.size) (fun ho => (h.new i ho).elim hn (fun hl => by omega))).trans (h.keep i hi hn),
    fun i hi => (k.new i hi).elim (h.new i) (fun hl => .inr (Nat.le_trans h.size hl))⟩
theorem Step.free (h : Step bm bl t bl' t' w w') {k : Nat} (hk : k < w.heap.size) (hn : ¬ owns bm bl t k) : ¬ owns bm bl' t' k := fun ho => (h.new k ho).elim hn (fun hl => by omega)
theorem Step.bel (h : Step bm bl t bl' t' w w') (ha : TAt w B b bm bl t) {W : World} (hb : Below B W w) : Below B W w' := by
  by_cases hB : B ≤ w.heap.size
  · exact hb.trans ⟨h.os, h.tape, h.output, h.size, fun k hk => h.keep k (by omega) (fun ho => by have := ha.los k ho; omega)⟩
  · exfalso
    have := blk_lt ha.blk
    have := ha.lo
    omega
/-- A block of the caller's own stays. -/
theorem Step.blk (h : Step bm bl t bl' t' w w') {k : Nat} {o : Obj} (hk : w.heap[k]? = some o) (hn : ¬ owns bm bl t k) : w'.heap[k]? = some o := (h.keep k (blk_lt hk) hn).trans hk
end
end Go.Proofs.Ytibdjmmhdggpfaa

/-
  Contracts of a table's Line, Took, Refused and Heard.
-/
namespace Go.Proofs.Ytibdjmmhdggpfaa
set_option linter.unusedVariables false
set_option linter.unusedSimpArgs false
open Go.RowKit Go.Maps Go.Proofs.YtibdjmmhdggpfaaW.PrintWords Go.Proofs.YtibdjmmhdggpfaaW.PrintMore Go.Proofs.Ytibdjmmhdggpfaa.PPollPlays Go.Proofs.Ytibdjmmhdggpfaa.pure Go.Proofs.Ytibdjmmhdggpfaa.fmap

theorem zero92 (w : World) : (zeroValue 92).run Try.prog w = .ok (.pointer none) w := by kernel_rfl
theorem look75 {w : World} {bm n : Nat} {bl : Int → Nat} {t : Tb} (h : FM w Try.prog 3 bm n (tabf bl t)) (k : Int) (hk : (Lit.int .i64 k).wf = true) :
    (Instr.lookup 75 (.map (some bm)) (.int .i64 k) false).run Try.prog w = .ok (.pointer (if (t k).isSome then some ⟨bl k, 0, none⟩ else none)) w := by
  rw [h.look law3 Try.underlying75 (zero92 _) (keyOf_int_mk Try.underlying3 hk)]
  unfold tabf
  by_cases e : (t k).isSome = true <;> simp [e]

section
variable (w : World) (B b bm : Nat) (bl : Int → Nat) (t : Tb) (h : TAt w B b bm bl t) (k : Int)
include h
theorem line_some (x : Ln) (hx : t k = some x) : Calls Try.prog 56 #[.pointer (some ⟨b, 0, none⟩), .int .i64 k] w fun e w' => e = .returned (.pointer (some ⟨bl k, 0, none⟩)) ∧ w = w' := by
  have h0 := h.c0
  have hk := h.ok.key k x hx
  have hl := look75 h.map k (WalkArith.wf_i64 (by omega))
  rw [hx] at hl
  simp only [Option.isSome_some, if_true] at hl
  clear h hx hk
  go_enter Try.func56, Try.ntmps56
  go_wp2
  go_ret
  exact ⟨rfl, rfl⟩
theorem line_none (hw : (Lit.int .i64 k).wf = true) (hx : t k = none) : Calls Try.prog 56 #[.pointer (some ⟨b, 0, none⟩), .int .i64 k] w fun e w' => e = .returned (.pointer none) ∧ w = w' := by
  have h0 := h.c0
  have hl := look75 h.map k hw
  rw [hx] at hl
  simp at hl
  clear h hx
  go_enter Try.func56, Try.ntmps56
  go_wp2
  go_ret
  exact ⟨rfl, rfl⟩
end
/-- A line's value. -/
abbrev lv (x : Ln) : Value := .agg #[.int .u64 x.m, .int .u64 x.n, .int .u64 x.r, .bool x.a]
set_option maxRecDepth 100000 in
theorem Line_ok (w : World) (B b bm : Nat) (bl : Int → Nat) (t : Tb) (h : TAt w B b bm bl t) (k : Int) (hw : (Lit.int .i64 k).wf = true) :
    Calls Try.prog 28 #[.pointer (some ⟨b, 0, none⟩), .int .i64 k] w fun e w' => e = .returned (.tuple #[lv (lnz t k), .bool (t k).isSome]) ∧ Below w.heap.size w w' := by
  rcases hx : t k with _ | x
  · have HL := Lib.hid (line_none _ B b bm bl t (h.below (alloc_below w (.cells #[.int .u64 0, .int .u64 0, .int .u64 0, .bool false] 66))) k hw hx)
    have hz : lnz t k = z0 := by simp [lnz, hx]
    rw [hz]
    clear h hx hz
    go_enter Try.func28, Try.ntmps28
    go_wp2_with (go_at_call 56; refine HL.out.mono ?_; rintro e w1 ⟨rfl, rfl⟩)
    exact bodyPost_ret (v := .tuple #[lv z0, .bool false]) (by simp [results, Try.results28, go_sem]) rfl ⟨rfl, alloc_below _ _⟩
  · have HL := Lib.hid (line_some _ B b bm bl t (h.below (alloc_below w (.cells #[.int .u64 0, .int .u64 0, .int .u64 0, .bool false] 66))) k x hx)
    have hz : lnz t k = x := by simp [lnz, hx]
    rw [hz]
    have hb := h.line k x hx
    have hlt := blk_lt hb
    have d0 := blk_cell hb 0
    have d1 := blk_cell hb 1
    have d2 := blk_cell hb 2
    have d3 := blk_cell hb 3
    simp at d0 d1 d2 d3
    have hu := Try.underlying66
    clear h hx hz hb
    go_enter Try.func28, Try.ntmps28
    go_wp2_with (go_at_call 56; refine HL.out.mono ?_; rintro e w1 ⟨rfl, rfl⟩)
    exact bodyPost_ret (v := .tuple #[lv x, .bool true]) (by simp [results, Try.results28, go_sem]) rfl ⟨rfl, alloc_below _ _⟩

/-- A line has been written. -/
theorem TAt.turn {w w' : World} {B b bm : Nat} {bl : Int → Nat} {t : Tb} (h : TAt w B b bm bl t) {k : Int} {x x' : Ln} (hk : t k = some x) (hx : x'.Ok) (hg : w.grownBy w' (some (bl k))) (hb : w'.heap[bl k]? = some (.cells (lc x') 66 (0, 0))) :
    TAt w' B b bm bl (tput t k x') ∧ Step bm bl t bl (tput t k x') w w' := by
  have hs : (t k).isSome = true := by rw [hk]; rfl
  have iss : ∀ j, (tput t k x' j).isSome = (t j).isSome := fun j => by
    by_cases e : j = k
    · subst e; rw [tput_same, hk]; rfl
    · rw [tput_other t x' e]
  have own : ∀ j, owns bm bl (tput t k x') j ↔ owns bm bl t j := fun j => by unfold owns; simp only [iss]
  refine ⟨⟨?_, ?_, ?_, ?_, h.ok.put (h.ok.key k x hk) hx, h.lo, fun j hj => h.los j ((own j).1 hj)⟩, ⟨hg.os, hg.tape, hg.output, hg.size, ?_, fun j hj => .inl ((own j).1 hj)⟩⟩
  · exact blk_grown h.blk hg (by intro e; exact h.b_free (.inr ⟨k, hs, by cases e; rfl⟩))
  · rw [tabf_same bl t k x' hs]
    exact h.map.kept hg (by intro e; exact h.line_ne hk (by cases e; rfl))
  · intro j y hj
    by_cases e : j = k
    · subst e
      rw [tput_same] at hj
      cases hj
      exact hb
    · rw [tput_other t x' e] at hj
      exact blk_grown (h.line j y hj) hg (by intro e'; exact e (h.inj j k (by rw [hj]; rfl) hs (Option.some.inj e')))
  · intro i j hi hj he
    rw [iss] at hi hj
    exact h.inj i j hi hj he
  · intro i hi hn
    exact hg.block i hi (by intro e; exact hn (.inr ⟨k, hs, by cases e; rfl⟩))

/-- What a call of the table leaves. -/
def Moves (w : World) (B b bm : Nat) (bl : Int → Nat) (t t' : Tb) (v : Value) (e : Ending) (w' : World) : Prop :=
  e = .returned v ∧ ∃ bl', TAt w' B b bm bl' t' ∧ Step bm bl t bl' t' w w'
theorem moves_same {w w' : World} {B b bm : Nat} {bl : Int → Nat} {t : Tb} {v : Value} (h : TAt w B b bm bl t) (hb : Below w.heap.size w w') : Moves w B b bm bl t t v (.returned v) w' :=
  ⟨rfl, bl, h.below hb, Step.of_below hb⟩

theorem one_grown (w : World) (g i : Nat) (v : Value) : w.grownBy (w.setCell ⟨g, i, none⟩ v) (some g) :=
  ⟨rfl, rfl, rfl, by simp, fun k hk hne => Below.heap_setCell w ⟨g, i, none⟩ v k (fun e => hne (by rw [e]))⟩
theorem two_grown (w : World) (g i j : Nat) (u v : Value) : w.grownBy ((w.setCell ⟨g, i, none⟩ u).setCell ⟨g, j, none⟩ v) (some g) := (one_grown w g i u).andThen (one_grown _ g j v) (by simp)

def heardx (x : Ln) (i : Int) : Ln := { x with a := true, r := if x.r < i then i else x.r }
def heard (t : Tb) (k i : Int) : Tb := match t k with | some x => tput t k (heardx x i) | none => t

theorem wf_u64 {i : Int} (h : (Lit.int .u64 i).wf = true) : 0 ≤ i ∧ i < UU := by
  simp [Lit.wf, IntKind.min, IntKind.max, IntKind.bits, IntKind.signed] at h
  unfold UU
  omega
theorem heardx_ok {x : Ln} (h : x.Ok) {i : Int} (h0 : (Lit.int .u64 i).wf = true) : (heardx x i).Ok := by
  have h1 := wf_u64 h0
  obtain ⟨a, b, c, d, e, f⟩ := h
  unfold heardx
  refine ⟨a, b, c, d, ?_, ?_⟩
  · show 0 ≤ ite _ _ _
    split <;> omega
  · show ite _ _ _ < _
    split <;> omega
theorem wrap_u {m : Int} (h0 : 0 ≤ m) (h1 : m ≤ IX) : IntKind.u64.wrap (m + 1) = m + 1 := by
  unfold IX at h1
  simp only [IntKind.wrap, IntKind.bits, IntKind.signed]
  simp
  omega
theorem wrap_i {i n : Int} (h0 : (Lit.int .u64 i).wf = true) (h1 : i < n) (h2 : n ≤ IX + 1) : IntKind.u64.wrap (i + 1) = i + 1 :=
  wrap_u (wf_u64 h0).1 (by omega)
theorem _root_.Go.World.grownBy.drew {w w' : World} {row : Option Nat} (h : w.grownBy w' row) : w.grownBy w'.drew row := ⟨h.os, h.tape, h.output, h.size, h.block⟩
theorem neq_ret (a b : Int) : Ending.returned (.bool (a != b)) = .returned (.bool (decide (a ≠ b))) := by
  congr 2
  rw [Bool.eq_iff_iff]
  simp
theorem heard_none (w : World) (B b bm : Nat) (bl : Int → Nat) (t : Tb) (h : TAt w B b bm bl t) (k i : Int) (hw : (Lit.int .i64 k).wf = true) (hk : t k = none) :
    Calls Try.prog 37 #[.pointer (some ⟨b, 0, none⟩), .int .i64 k, .int .u64 i] w (Moves w B b bm bl t (heard t k i) (.bool (t k).isSome)) := by
  have he : heard t k i = t := by unfold heard; rw [hk]
  rw [he, hk]
  have HL := Lib.hid (line_none w B b bm bl t h k hw hk)
  have HH := Lib.hid h
  clear h he hk
  go_enter Try.func37, Try.ntmps37
  go_wp2_with (go_at_call 56; refine HL.out.mono ?_; rintro e w1 ⟨rfl, rfl⟩)
  go_ret
  exact moves_same HH.out (Below.refl _ _)
theorem heard_some (w : World) (B b bm : Nat) (bl : Int → Nat) (t : Tb) (h : TAt w B b bm bl t) (k i : Int) (hi : (Lit.int .u64 i).wf = true) (x : Ln) (hk : t k = some x) :
    Calls Try.prog 37 #[.pointer (some ⟨b, 0, none⟩), .int .i64 k, .int .u64 i] w (Moves w B b bm bl t (heard t k i) (.bool (t k).isSome)) := by
  have he : heard t k i = tput t k (heardx x i) := by unfold heard; rw [hk]
  have HL := Lib.hid (line_some w B b bm bl t h k x hk)
  have HH := Lib.hid h
  have HK := Lib.hid hk
  have HE := Lib.hid he
  have hb := h.line k x hk
  have d0 := blk_cell hb 0
  have d1 := blk_cell hb 1
  have d2 := blk_cell hb 2
  have d3 := blk_cell hb 3
  have f2 := blk_frozen hb 2
  have f3 := blk_frozen hb 3
  have HB := Lib.hid hb
  simp at d0 d1 d2 d3
  clear h he hk hb
  go_enter Try.func37, Try.ntmps37
  go_wp2_with (go_at_call 56; refine HL.out.mono ?_; rintro e w1 ⟨rfl, rfl⟩)
  all_goals
    go_ret
    rw [HE.out, HK.out]
    refine ⟨rfl, bl, HH.out.turn HK.out (heardx_ok (HH.out.ok.ok k x HK.out) hi) (two_grown _ _ _ _ _ _) (blk_put (blk_put HB.out 3 _ rfl) 2 _ ?_)⟩
    unfold heardx
  · rw [if_pos ‹_›]
    rfl
  · rw [if_neg (by omega)]
    rfl

def refx (x : Ln) (i : Int) : Ln := { x with n := if x.m + 1 ≤ (if i < x.n then i + 1 else x.n) then (if i < x.n then i + 1 else x.n) else x.m + 1 }
def refused (t : Tb) (k i : Int) : Tb := match t k with | some x => tput t k (refx x i) | none => t
def refb (t : Tb) (k i : Int) : Bool := match t k with | some x => decide ((refx x i).n ≠ x.n) | none => false
theorem refx_ok {x : Ln} (h : x.Ok) {i : Int} (h0 : (Lit.int .u64 i).wf = true) : (refx x i).Ok := by
  have h1 := wf_u64 h0
  obtain ⟨a, b, c, d, e, f⟩ := h
  unfold refx
  refine ⟨a, b, ?_, ?_, e, f⟩
  · show x.m < ite _ _ _
    repeat' split
    all_goals omega
  · show ite _ _ _ ≤ _
    repeat' split
    all_goals omega
theorem refused_none (w : World) (B b bm : Nat) (bl : Int → Nat) (t : Tb) (h : TAt w B b bm bl t) (k i : Int) (hw : (Lit.int .i64 k).wf = true) (hk : t k = none) :
    Calls Try.prog 36 #[.pointer (some ⟨b, 0, none⟩), .int .i64 k, .int .u64 i] w (Moves w B b bm bl t (refused t k i) (.bool (refb t k i))) := by
  have he : refused t k i = t := by unfold refused; rw [hk]
  have hb : refb t k i = false := by unfold refb; rw [hk]
  rw [he, hb]
  have HL := Lib.hid (line_none w B b bm bl t h k hw hk)
  have HH := Lib.hid h
  clear h he hk hb
  go_enter Try.func36, Try.ntmps36
  go_wp2_with (go_at_call 56; refine HL.out.mono ?_; rintro e w1 ⟨rfl, rfl⟩)
  go_ret
  exact moves_same HH.out (Below.refl _ _)
set_option maxHeartbeats 1000000 in
theorem refused_some (w : World) (B b bm : Nat) (bl : Int → Nat) (t : Tb) (h : TAt w B b bm bl t) (k i : Int) (hi : (Lit.int .u64 i).wf = true) (x : Ln) (hk : t k = some x) :
    Calls Try.prog 36 #[.pointer (some ⟨b, 0, none⟩), .int .i64 k, .int .u64 i] w (Moves w B b bm bl t (refused t k i) (.bool (refb t k i))) := by
  have he : refused t k i = tput t k (refx x i) := by unfold refused; rw [hk]
  have heb : refb t k i = decide ((refx x i).n ≠ x.n) := by unfold refb; rw [hk]
  have HL := Lib.hid (line_some w B b bm bl t h k x hk)
  have HH := Lib.hid h
  have HK := Lib.hid hk
  have HE := Lib.hid he
  have HEB := Lib.hid heb
  have hok := h.ok.ok k x hk
  have hb := h.line k x hk
  have d0 := blk_cell hb 0
  have d1 := blk_cell hb 1
  have f1 := blk_frozen hb 1
  have HB := Lib.hid hb
  simp at d0 d1
  have hm1 := wrap_u (hok.m0) (hok.m1)
  clear h he hk hb heb
  by_cases c1 : i < x.n
  · have hi1 := wrap_i hi c1 hok.n1
    by_cases c2 : x.m + 1 ≤ i + 1
    · have HR := Lib.hid (show refx x i = { x with n := i + 1 } by unfold refx; rw [if_pos c1, if_pos c2])
      clear hok
      go_enter Try.func36, Try.ntmps36
      go_wp2_with (go_at_call 56; refine HL.out.mono ?_; rintro e w1 ⟨rfl, rfl⟩)
      go_region
      go_wp2
      go_ret
      rw [HE.out, HEB.out]
      refine ⟨?_, bl, HH.out.turn HK.out (refx_ok (HH.out.ok.ok k x HK.out) hi) ((two_grown _ _ _ _ _ _).drew) (blk_drew (blk_put (blk_put HB.out 1 _ rfl) 1 _ ?_))⟩
      · rw [HR.out]; exact neq_ret _ _
      · rw [HR.out]; rfl
    · have c3 : i + 1 < x.m + 1 := by omega
      have HR := Lib.hid (show refx x i = { x with n := x.m + 1 } by unfold refx; rw [if_pos c1, if_neg c2])
      clear hok c2
      go_enter Try.func36, Try.ntmps36
      go_wp2_with (go_at_call 56; refine HL.out.mono ?_; rintro e w1 ⟨rfl, rfl⟩)
      go_region
      go_wp2
      go_ret
      rw [HE.out, HEB.out]
      refine ⟨?_, bl, HH.out.turn HK.out (refx_ok (HH.out.ok.ok k x HK.out) hi) ((two_grown _ _ _ _ _ _).drew) (blk_drew (blk_put (blk_put HB.out 1 _ rfl) 1 _ ?_))⟩
      · rw [HR.out]; exact neq_ret _ _
      · rw [HR.out]; rfl
  · have c1' : x.n ≤ i := by omega
    have c2 : x.m + 1 ≤ x.n := by have := hok.mn; omega
    have HR := Lib.hid (show refx x i = x by unfold refx; rw [if_neg c1, if_pos c2])
    clear hok c1
    go_enter Try.func36, Try.ntmps36
    go_wp2_with (go_at_call 56; refine HL.out.mono ?_; rintro e w1 ⟨rfl, rfl⟩)
    go_region
    go_wp2
    go_ret
    rw [HE.out, HEB.out]
    refine ⟨?_, bl, HH.out.turn HK.out (refx_ok (HH.out.ok.ok k x HK.out) hi) ((one_grown _ _ _ _).drew) (blk_drew (blk_put HB.out 1 _ ?_))⟩
    · rw [HR.out]; simp
    · rw [HR.out]; rfl

def tookx (x : Ln) (i : Int) : Ln := { x with m := if x.m < i then i else x.m, n := if x.n < i + 1 then i + 1 else x.n }
def took (t : Tb) (k i : Int) : Tb := match t k with | some x => if i ≤ IX then tput t k (tookx x i) else t | none => t
def tookb (t : Tb) (k i : Int) : Bool := match t k with | some x => decide (i ≤ IX) && decide (x.m < i) | none => false
theorem tookx_ok {x : Ln} (h : x.Ok) {i : Int} (h0 : (Lit.int .u64 i).wf = true) (h1 : i ≤ IX) : (tookx x i).Ok := by
  have h2 := wf_u64 h0
  obtain ⟨a, b, c, d, e, f⟩ := h
  unfold tookx
  refine ⟨?_, ?_, ?_, ?_, e, f⟩
  · show 0 ≤ ite _ _ _
    split <;> omega
  · show ite _ _ _ ≤ _
    split <;> omega
  · show ite _ _ _ < ite _ _ _
    repeat' split
    all_goals omega
  · show ite _ _ _ ≤ _
    split <;> omega
theorem took_none (w : World) (B b bm : Nat) (bl : Int → Nat) (t : Tb) (h : TAt w B b bm bl t) (k i : Int) (hw : (Lit.int .i64 k).wf = true) (hk : t k = none) :
    Calls Try.prog 35 #[.pointer (some ⟨b, 0, none⟩), .int .i64 k, .int .u64 i] w (Moves w B b bm bl t (took t k i) (.bool (tookb t k i))) := by
  have he : took t k i = t := by unfold took; rw [hk]
  have hb : tookb t k i = false := by unfold tookb; rw [hk]
  rw [he, hb]
  have HL := Lib.hid (line_none w B b bm bl t h k hw hk)
  have HH := Lib.hid h
  clear h he hk hb
  go_enter Try.func35, Try.ntmps35
  go_wp2_with (go_at_call 56; refine HL.out.mono ?_; rintro e w1 ⟨rfl, rfl⟩)
  go_ret
  exact moves_same HH.out (Below.refl _ _)
theorem took_far (w : World) (B b bm : Nat) (bl : Int → Nat) (t : Tb) (h : TAt w B b bm bl t) (k i : Int) (hi : ¬ i ≤ IX) (x : Ln) (hk : t k = some x) :
    Calls Try.prog 35 #[.pointer (some ⟨b, 0, none⟩), .int .i64 k, .int .u64 i] w (Moves w B b bm bl t (took t k i) (.bool (tookb t k i))) := by
  have he : took t k i = t := by unfold took; rw [hk]; exact if_neg hi
  have hb : tookb t k i = false := by unfold tookb; rw [hk]; simp [hi]
  rw [he, hb]
  have HL := Lib.hid (line_some w B b bm bl t h k x hk)
  have HH := Lib.hid h
  have hq : decide ((1152921504606846976 : Int) < i) = true := by unfold IX at hi; simp; omega
  clear h he hk hb hi
  go_enter Try.func35, Try.ntmps35
  go_wp2_with (go_at_call 56; refine HL.out.mono ?_; rintro e w1 ⟨rfl, rfl⟩)
  go_ret
  exact moves_same HH.out (Below.refl _ _)
set_option maxHeartbeats 1000000 in
theorem took_some (w : World) (B b bm : Nat) (bl : Int → Nat) (t : Tb) (h : TAt w B b bm bl t) (k i : Int) (hi : (Lit.int .u64 i).wf = true) (hx : i ≤ IX) (x : Ln) (hk : t k = some x) :
    Calls Try.prog 35 #[.pointer (some ⟨b, 0, none⟩), .int .i64 k, .int .u64 i] w (Moves w B b bm bl t (took t k i) (.bool (tookb t k i))) := by
  have he : took t k i = tput t k (tookx x i) := by unfold took; rw [hk]; exact if_pos hx
  have heb : tookb t k i = decide (x.m < i) := by unfold tookb; rw [hk]; simp [hx]
  have HL := Lib.hid (line_some w B b bm bl t h k x hk)
  have HH := Lib.hid h
  have HK := Lib.hid hk
  have HE := Lib.hid he
  have HEB := Lib.hid heb
  have hok := h.ok.ok k x hk
  have hb := h.line k x hk
  have d0 := blk_cell hb 0
  have d1 := blk_cell hb 1
  have f0 := blk_frozen hb 0
  have f1 := blk_frozen hb 1
  have HB := Lib.hid hb
  simp at d0 d1
  have hi1 := wrap_i hi (n := IX + 1) (by omega) (Int.le_refl _)
  have hq : decide ((1152921504606846976 : Int) < i) = false := by unfold IX at hx; simp; omega
  have HX := Lib.hid hx
  clear h he hk hb heb hx
  have main : ∀ (m' n' : Int) (bv : Bool) (H1 : Hid (tookx x i = { x with m := m', n := n' })) (hv : bv = decide (x.m < i)) (w' : World), w' = ((w.setCell ⟨bl k, 0, none⟩ (.int .u64 m')).setCell ⟨bl k, 1, none⟩ (.int .u64 n')).drew →
      Moves w B b bm bl t (took t k i) (.bool (tookb t k i)) (.returned (.bool bv)) w' := by
    rintro m' n' _ H1 rfl w' rfl
    rw [HE.out, HEB.out]
    refine ⟨rfl, bl, HH.out.turn HK.out (tookx_ok (HH.out.ok.ok k x HK.out) hi HX.out) ((two_grown _ _ _ _ _ _).drew) (blk_drew (blk_put (blk_put HB.out 0 _ rfl) 1 _ ?_))⟩
    rw [H1.out]
    rfl
  have MAIN := Lib.hid main
  clear main
  rcases Int.lt_or_le x.m i with c1 | c1 <;> rcases Int.lt_or_le x.n (i + 1) with c2 | c2
  all_goals
    have H1 := Lib.hid (show tookx x i = { x with m := if x.m < i then i else x.m, n := if x.n < i + 1 then i + 1 else x.n } from rfl)
    clear hok
  · rw [if_pos c1, if_pos c2] at H1
    go_enter Try.func35, Try.ntmps35
    go_wp2_with (go_at_call 56; refine HL.out.mono ?_; rintro e w1 ⟨rfl, rfl⟩)
    go_region
    go_wp2
    go_ret
    exact MAIN.out _ _ _ H1 (by simp [c1]) _ rfl
  · rw [if_pos c1, if_neg (by omega)] at H1
    go_enter Try.func35, Try.ntmps35
    go_wp2_with (go_at_call 56; refine HL.out.mono ?_; rintro e w1 ⟨rfl, rfl⟩)
    go_region
    go_wp2
    go_ret
    exact MAIN.out _ _ _ H1 (by simp [c1]) _ rfl
  · rw [if_neg (by omega), if_pos c2] at H1
    go_enter Try.func35, Try.ntmps35
    go_wp2_with (go_at_call 56; refine HL.out.mono ?_; rintro e w1 ⟨rfl, rfl⟩)
    go_region
    go_wp2
    go_ret
    exact MAIN.out _ _ _ H1 (by simp <;> omega) _ rfl
  · rw [if_neg (by omega), if_neg (by omega)] at H1
    go_enter Try.func35, Try.ntmps35
    go_wp2_with (go_at_call 56; refine HL.out.mono ?_; rintro e w1 ⟨rfl, rfl⟩)
    go_region
    go_wp2
    go_ret
    exact MAIN.out _ _ _ H1 (by simp <;> omega) _ rfl

section
variable (w : World) (B b bm : Nat) (bl : Int → Nat) (t : Tb) (h : TAt w B b bm bl t) (k i : Int) (hw : (Lit.int .i64 k).wf = true) (hi : (Lit.int .u64 i).wf = true)
include h hw hi
theorem Took_ok : Calls Try.prog 35 #[.pointer (some ⟨b, 0, none⟩), .int .i64 k, .int .u64 i] w (Moves w B b bm bl t (took t k i) (.bool (tookb t k i))) := by
  rcases hk : t k with _ | x
  · exact took_none w B b bm bl t h k i hw hk
  · by_cases hx : i ≤ IX
    · exact took_some w B b bm bl t h k i hi hx x hk
    · exact took_far w B b bm bl t h k i hx x hk
theorem Refused_ok : Calls Try.prog 36 #[.pointer (some ⟨b, 0, none⟩), .int .i64 k, .int .u64 i] w (Moves w B b bm bl t (refused t k i) (.bool (refb t k i))) := by
  rcases hk : t k with _ | x
  · exact refused_none w B b bm bl t h k i hw hk
  · exact refused_some w B b bm bl t h k i hi x hk
theorem Heard_ok : Calls Try.prog 37 #[.pointer (some ⟨b, 0, none⟩), .int .i64 k, .int .u64 i] w (Moves w B b bm bl t (heard t k i) (.bool (t k).isSome)) := by
  rcases hk : t k with _ | x
  · have := heard_none w B b bm bl t h k i hw hk
    rw [hk] at this
    exact this
  · have := heard_some w B b bm bl t h k i hi x hk
    rw [hk] at this
    exact this
end
end Go.Proofs.Ytibdjmmhdggpfaa
