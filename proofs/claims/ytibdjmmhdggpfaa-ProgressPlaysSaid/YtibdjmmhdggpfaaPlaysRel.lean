/-
  What holds at the head of each round of PollPlays: the poll, and the document's poll beside it.
-/
import Derived.Test.YtibdjmmhdggpfaaArgs
namespace Go.Proofs.Ytibdjmmhdggpfaa
set_option linter.unusedVariables false
set_option linter.unusedSimpArgs false
open Go.RowKit Go.Maps Go.Proofs.YtibdjmmhdggpfaaW.PrintWords Go.Proofs.YtibdjmmhdggpfaaW.PrintMore Go.Proofs.Ytibdjmmhdggpfaa.PPollPlays Go.Proofs.Ytibdjmmhdggpfaa.pure Go.Proofs.Ytibdjmmhdggpfaa.fmap

/-- A row of three slices in block g. -/
def Trio (w : World) (g : Nat) (x y z : Value) : Prop := w.heap[g]? = some (.cells #[x, y, z] 29 (0, 0))
def IsSlice (v : Value) : Prop := ∃ A n c, v = .slice A n c
section
variable {w w' : World} {g : Nat} {x y z : Value}
theorem Trio.c0 (h : Trio w g x y z) : w.cell? ⟨g, 0, none⟩ = some x := blk_cell h 0
theorem Trio.c1 (h : Trio w g x y z) : w.cell? ⟨g, 1, none⟩ = some y := blk_cell h 1
theorem Trio.c2 (h : Trio w g x y z) : w.cell? ⟨g, 2, none⟩ = some z := blk_cell h 2
theorem Trio.f (h : Trio w g x y z) (i : Nat) : w.frozen? ⟨g, i, none⟩ = false := blk_frozen h i
theorem Trio.lt (h : Trio w g x y z) : g < w.heap.size := blk_lt h
theorem Trio.below (h : Trio w g x y z) (hb : Below w.heap.size w w') : Trio w' g x y z := blk_below h hb
theorem Trio.alloc (h : Trio w g x y z) (o : Obj) : Trio (w.alloc o) g x y z := blk_alloc h o
theorem Trio.kept {row : Option Nat} (h : Trio w g x y z) (hg : w.grownBy w' row) (hne : row ≠ some g) : Trio w' g x y z := blk_grown h hg (fun e => hne e.symm)
theorem Trio.put (h : Trio w g x y z) (a b c : Value) : Trio (((w.setCell ⟨g, 0, none⟩ a).setCell ⟨g, 1, none⟩ b).setCell ⟨g, 2, none⟩ c) g a b c :=
  blk_put (blk_put (blk_put h 0 a rfl) 1 b rfl) 2 c rfl
theorem put_grown (w : World) (g : Nat) (a b c : Value) : w.grownBy (((w.setCell ⟨g, 0, none⟩ a).setCell ⟨g, 1, none⟩ b).setCell ⟨g, 2, none⟩ c) (some g) := by
  have one : ∀ (w : World) (i : Nat) (v : Value), w.grownBy (w.setCell ⟨g, i, none⟩ v) (some g) := fun w i v =>
    ⟨rfl, rfl, rfl, by simp, fun k hk hne => Below.heap_setCell w ⟨g, i, none⟩ v k (fun e => hne (by rw [e]))⟩
  exact ((one _ _ _).andThen (one _ _ _) (by simp)).andThen (one _ _ _) (by simp)
/-- A row of ints lies in no row of slices. -/
theorem IntC.trio_ne {A : Option Addr} {l : List Int} (h : IntC w A l) (h0 : l ≠ []) (ht : Trio w g x y z) (hx : IsSlice x) (hy : IsSlice y) (hz : IsSlice z) : ∀ ad, A = some ad → some g ≠ some ad.block := by
  intro ad e e'
  cases e'
  obtain ⟨ad', e2, hc⟩ := (IntC_iff.1 h).2 (List.length_pos_iff.2 h0)
  rw [e] at e2
  cases e2
  have h1 := hc 0 (List.length_pos_iff.2 h0)
  have hb : (ad.add 0).block = ad.block := by unfold Addr.add; split <;> rfl
  unfold Trio at ht
  unfold World.cell? at h1
  rw [hb, ht] at h1
  simp only at h1
  split at h1
  · cases h1
  · obtain ⟨_, _, _, rfl⟩ := hx
    obtain ⟨_, _, _, rfl⟩ := hy
    obtain ⟨_, _, _, rfl⟩ := hz
    generalize (ad.add 0).off = k at h1
    match k, h1 with
    | 0, h1 => simp at h1
    | 1, h1 => simp at h1
    | 2, h1 => simp at h1
    | n + 3, h1 => simp at h1
theorem IntC.nil {A : Option Addr} : IntC w A [] := by rw [IntC_iff]; exact ⟨by simp, fun h => absurd h (by simp)⟩
theorem IntC.put {A : Option Addr} {l : List Int} (h : IntC w A l) (ht : Trio w g x y z) (hx : IsSlice x) (hy : IsSlice y) (hz : IsSlice z) (hg : w.grownBy w' (some g)) : IntC w' A l := by
  by_cases h0 : l = []
  · subst h0
    exact IntC.nil
  · exact h.kept hg (h.trio_ne h0 ht hx hy hz)
theorem IntC.store {A : Option Addr} {l : List Int} (h : IntC w A l) {bm n : Nat} {f : Lit → Option Value} (hm : FM w Try.prog 3 bm n f) (hg : w.grownBy w' (some bm)) : IntC w' A l := by
  by_cases h0 : l = []
  · subst h0
    exact IntC.nil
  · exact h.kept hg (h.map_ne h0 hm)
end
theorem isSlice (A : Option Addr) (n c : Nat) : IsSlice (.slice A n c) := ⟨_, _, _, rfl⟩

/-- The document's poll in block g. -/
structure Doc (w : World) (g : Nat) (A0 : Option Addr) (c0 : Nat) (mem : List Int) (A1 : Option Addr) (c1 : Nat) (A3 : Option Addr) (c3 : Nat) (said : Int → Int) : Prop where
  trio : Trio w g (.slice A0 mem.length c0) (.slice A1 (who said 1).length c1) (.slice A3 (who said 2).length c3)
  C0 : IntC w A0 mem
  C1 : IntC w A1 (who said 1)
  C3 : IntC w A3 (who said 2)
  h0 : mem.length ≤ c0
  h1 : (who said 1).length ≤ c1
  h3 : (who said 2).length ≤ c3
section
variable {w w' : World} {g : Nat} {A0 : Option Addr} {c0 : Nat} {mem : List Int} {A1 : Option Addr} {c1 : Nat} {A3 : Option Addr} {c3 : Nat} {said said' : Int → Int} {A1' : Option Addr} {c1' : Nat} {A3' : Option Addr} {c3' : Nat}
theorem Doc.below (h : Doc w g A0 c0 mem A1 c1 A3 c3 said) (hb : Below w.heap.size w w') : Doc w' g A0 c0 mem A1 c1 A3 c3 said :=
  ⟨h.trio.below hb, h.C0.below hb, h.C1.below hb, h.C3.below hb, h.h0, h.h1, h.h3⟩
theorem Doc.store (h : Doc w g A0 c0 mem A1 c1 A3 c3 said) {bm n : Nat} {f : Lit → Option Value} (hm : FM w Try.prog 3 bm n f) (hg : w.grownBy w' (some bm)) : Doc w' g A0 c0 mem A1 c1 A3 c3 said :=
  ⟨h.trio.kept hg (by
    intro e
    obtain ⟨es, clock, hb⟩ := hm.block
    have ht := h.trio
    unfold Trio at ht
    cases e
    rw [hb] at ht
    cases ht), h.C0.store hm hg, h.C1.store hm hg, h.C3.store hm hg, h.h0, h.h1, h.h3⟩
theorem Doc.put (h : Doc w g A0 c0 mem A1 c1 A3 c3 said) (H1 : IntC w A1' (who said' 1)) (h1 : (who said' 1).length ≤ c1') (H3 : IntC w A3' (who said' 2)) (h3 : (who said' 2).length ≤ c3') :
    Doc (((w.setCell ⟨g, 0, none⟩ (.slice A0 mem.length c0)).setCell ⟨g, 1, none⟩ (.slice A1' (who said' 1).length c1')).setCell ⟨g, 2, none⟩ (.slice A3' (who said' 2).length c3')) g A0 c0 mem A1' c1' A3' c3' said' :=
  ⟨h.trio.put _ _ _, h.C0.put h.trio (isSlice _ _ _) (isSlice _ _ _) (isSlice _ _ _) (put_grown _ _ _ _ _), H1.put h.trio (isSlice _ _ _) (isSlice _ _ _) (isSlice _ _ _) (put_grown _ _ _ _ _),
    H3.put h.trio (isSlice _ _ _) (isSlice _ _ _) (isSlice _ _ _) (put_grown _ _ _ _ _), h.h0, h1, h3⟩
theorem PAt.put {b bm : Nat} {A : Option Addr} {c n : Nat} {m : List Int} {said : Int → Int} {x y z : Value} (h : PAt w b bm A c m said n) (ht : Trio w g x y z) (hx : IsSlice x) (hy : IsSlice y) (hz : IsSlice z) (hg : w.grownBy w' (some g)) : PAt w' b bm A c m said n := by
  refine h.kept hg ?_ ?_ (h.memC.trio_ne (snd_ne h.sndT) ht hx hy hz)
  · rintro e
    cases e
    have := h.blk
    unfold Trio at ht
    rw [ht] at this
    cases this
  · rintro e
    cases e
    obtain ⟨es, clock, hb⟩ := h.map.block
    unfold Trio at ht
    rw [ht] at hb
    cases hb
end
theorem Doc.alloc {w : World} {g : Nat} {A0 : Option Addr} {c0 : Nat} {mem : List Int} {A1 : Option Addr} {c1 : Nat} {A3 : Option Addr} {c3 : Nat} {said : Int → Int} (h : Doc w g A0 c0 mem A1 c1 A3 c3 said) (o : Obj) : Doc (w.alloc o) g A0 c0 mem A1 c1 A3 c3 said := h.below (alloc_below _ _)
theorem Doc.drew {w : World} {g : Nat} {A0 : Option Addr} {c0 : Nat} {mem : List Int} {A1 : Option Addr} {c1 : Nat} {A3 : Option Addr} {c3 : Nat} {said : Int → Int} (h : Doc w g A0 c0 mem A1 c1 A3 c3 said) : Doc w.drew g A0 c0 mem A1 c1 A3 c3 said := h.below ⟨rfl, rfl, rfl, Nat.le_refl _, fun _ _ => rfl⟩
theorem Rel.drew {w wr : World} {b bm : Nat} {A : Option Addr} {c : Nat} {mem : List Int} {said : Int → Int} (R : Rel w b bm A c mem said wr) : Rel w b bm A c mem said wr.drew := R.below ⟨rfl, rfl, rfl, Nat.le_refl _, fun _ _ => rfl⟩
theorem Rel.put {w wr w' : World} {b bm g : Nat} {A : Option Addr} {c : Nat} {mem : List Int} {said : Int → Int} {x y z : Value} (R : Rel w b bm A c mem said wr) (ht : Trio wr g x y z) (hx : IsSlice x) (hy : IsSlice y) (hz : IsSlice z) (hgs : w.heap.size ≤ g) (hg : wr.grownBy w' (some g)) : Rel w b bm A c mem said w' :=
  ⟨R.at_.put ht hx hy hz hg, R.bel.grown hg R.bel.size (by intro k e; cases e; exact hgs), R.hbm⟩
theorem Rel.noted {w wr w' : World} {b bm : Nat} {A : Option Addr} {c : Nat} {mem : List Int} {said said' : Int → Int} (R : Rel w b bm A c mem said wr) (h : PAt w' b bm A c mem said' (cd said')) (hg : wr.grownBy w' (some bm)) : Rel w b bm A c mem said' w' :=
  ⟨h, R.bel.grown hg R.bel.size (by intro k e; cases e; exact R.hbm), R.hbm⟩
/-- One that speaks, in block sb. -/
def Says (w : World) (sb : Nat) (x : Int) (ok : Bool) : Prop := w.heap[sb]? = some (.cells #[.int .i64 x, .bool ok] 31 (0, 0))
theorem Says.below {w w' : World} {sb : Nat} {x : Int} {ok : Bool} (h : Says w sb x ok) (hb : Below w.heap.size w w') : Says w' sb x ok := blk_below h hb
theorem Says.store {w w' : World} {sb : Nat} {x : Int} {ok : Bool} (h : Says w sb x ok) {bm n : Nat} {f : Lit → Option Value} (hm : FM w Try.prog 3 bm n f) (hg : w.grownBy w' (some bm)) : Says w' sb x ok :=
  blk_grown h hg (by
    intro e
    obtain ⟨es, clock, hb⟩ := hm.block
    unfold Says at h
    cases e
    rw [hb] at h
    cases h)
theorem five {w : World} {sb g : Nat} {x : Int} {ok : Bool} {a b c : Value} (h : Says w sb x ok) (ht : Trio w g a b c) :
    w.cell? ⟨sb, 0, none⟩ = some (.int .i64 x) ∧ w.cell? ⟨sb, 1, none⟩ = some (.bool ok) ∧ w.cell? ⟨g, 0, none⟩ = some a ∧ w.cell? ⟨g, 1, none⟩ = some b ∧ w.cell? ⟨g, 2, none⟩ = some c :=
  ⟨blk_cell h 0, blk_cell h 1, ht.c0, ht.c1, ht.c2⟩
theorem who_none (what : Int) (h : what ≠ 0) : who (fun _ => 0) what = [] := by
  unfold who rowp
  simp [h.symm]
theorem rnote (w : World) (A A1 A2 : Option Addr) (c c1 c2 : Nat) (mem : List Int) (said : Int → Int) (hm : snd mem = true) (ho : Ok mem said) (h : IntC w A mem) (hc : mem.length ≤ c)
    (h1 : IntC w A1 (who said 1)) (hc1 : (who said 1).length ≤ c1) (h2 : IntC w A2 (who said 2)) (hc2 : (who said 2).length ≤ c2) (x : Int) (ok : Bool) :
    Calls Try.prog 14 #[.agg #[.slice A mem.length c, .slice A1 (who said 1).length c1, .slice A2 (who said 2).length c2], .int .i64 x, .bool ok] w (RNotes w A c mem said x ok) := by
  by_cases hx : counts mem said x = true
  · exact rnote_yes w A A1 A2 c c1 c2 mem said hm h hc h1 hc1 h2 hc2 x ok hx
  · exact rnote_no w A A1 A2 c c1 c2 mem said hm ho h hc h1 hc1 h2 hc2 x ok (by simpa using hx)
theorem same_who (w : World) (A A' : Option Addr) (c c' : Nat) (said : Int → Int) (what : Int) (h : IntC w A (who said what)) (hc : (who said what).length ≤ c) (h' : IntC w A' (who said what)) (hc' : (who said what).length ≤ c') :
    Calls Try.prog 18 #[.slice A (who said what).length c, .slice A' (who said what).length c'] w fun e w' => e = .returned (.bool true) ∧ Below w.heap.size w w' :=
  (rsame w A c _ h hc (by have := who_len said what; omega) A' c' _ h' hc').mono fun e w' ⟨he, m, hm⟩ => ⟨by rw [he]; simp, by rw [hm]; exact drawn_below w m⟩
end Go.Proofs.Ytibdjmmhdggpfaa
