/-
  Contracts of the reference of chapter 05: what it does to a list of counts.
-/
import Derived.Test.YtimicedinjacaaaLives
import Derived.Deep.RegionWith
import Derived.Deep.RegionHeld3
namespace Go.Proofs.Ytimicedinjacaaa
open Go.RowKit

/-- v is a slice of the n numbers c, in a row of the call's own, from block base on. -/
structure RowU (w : World) (base g cap : Nat) (c : Nat → Int) (n : Nat) : Prop where
  base : base ≤ g
  lt : g < w.heap.size
  cell : ∀ i, i < n → w.cell? ⟨g, i, none⟩ = some (.int .u64 (c i))
  free : ∀ i, w.frozen? ⟨g, i, none⟩ = false

def cl (c : Nat → Int) (n : Nat) : List Value := (List.range n).map fun i => .int .u64 (c i)
theorem cl_len (c : Nat → Int) (n : Nat) : (cl c n).length = n := by simp [cl]
theorem cl_get (c : Nat → Int) (n i : Nat) (h : i < n) : (cl c n)[i]? = some (.int .u64 (c i)) := by simp [cl, h]
theorem cl_one (c : Nat → Int) (n : Nat) : ∀ u ∈ cl c n, u.oneCell' = true := by
  intro u hu
  obtain ⟨i, _, rfl⟩ := List.mem_map.1 hu
  rfl

theorem RowU.grown {w w' : World} {base g cap : Nat} {c : Nat → Int} {n : Nat} {row : Option Nat} (R : RowU w base g cap c n) (hg : w.grownBy w' row) (hne : row ≠ some g) : RowU w' base g cap c n where
  base := R.base
  lt := Nat.lt_of_lt_of_le R.lt hg.size
  cell := fun i hi => hg.cell (R.cell i hi) (fun e => hne e.symm)
  free := fun i => by rw [World.frozen?_of_block (w := w) (hg.block g R.lt (fun e => hne e.symm))]; exact R.free i

theorem RowU.congr {w : World} {base g cap : Nat} {c c' : Nat → Int} {n : Nat} (R : RowU w base g cap c n) (h : ∀ i, i < n → c i = c' i) : RowU w base g cap c' n :=
  ⟨R.base, R.lt, fun i hi => by rw [← h i hi]; exact R.cell i hi, R.free⟩

theorem RowU.of_owns {w : World} {base n : Nat} {v : Value} {c : Nat → Int} (h : w.ownsRow base 28 1 v n (cl c n)) (hn : 0 < n) : ∃ g cap, v = .slice (some ⟨g, 0, none⟩) n cap ∧ RowU w base g cap c n := by
  obtain ⟨h1, ⟨_, h2⟩ | ⟨g, cap, cur, rfl, hg, hh, hcap, _, hs, ht⟩⟩ := h
  · omega
  · refine ⟨g, cap, rfl, hg, lt_of_block hh, fun i hi => ?_, fun i => by simp [World.frozen?, hh]⟩
    have : (cur.toList.take (n * 1))[i]? = some (.int .u64 (c i)) := by rw [ht]; exact cl_get c n i hi
    rw [List.getElem?_take, if_pos (by omega)] at this
    simp [World.cell?, hh]
    simpa using this

theorem RowU.set {w : World} {base g cap : Nat} {c : Nat → Int} {n : Nat} (R : RowU w base g cap c n) (k : Nat) (hk : k < n) (v : Int) : RowU (w.setCell ⟨g, k, none⟩ (.int .u64 v)) base g cap (upd c k v) n where
  base := R.base
  lt := by simpa [World.setCell] using R.lt
  cell := fun i hi => by
    by_cases e : i = k
    · subst e
      rw [World.cell?_setCell_same _ _ _ (R.cell i hi)]
      simp [upd]
    · rw [World.cell?_setCell_other _ _ _ _ (by intro h; cases h; exact e rfl), R.cell i hi]
      simp [upd, e]
  free := fun i => by rw [World.frozen?_setCell]; exact R.free i

theorem cl_cells {w : World} {base g cap : Nat} {c : Nat → Int} {n : Nat} (R : RowU w base g cap c n) {o : Obj} : ∀ j u, (cl c n)[j]? = some u → (w.alloc o).cell? ((⟨g, 0, none⟩ : Addr).add j) = some u := by
  intro j u hu
  have hj : j < n := by have := (List.getElem?_eq_some_iff.1 hu).1; rwa [cl_len] at this
  rw [cl_get c n j hj] at hu
  rw [Addr.add_lit, Nat.zero_add, World.cell?_alloc_past _ _ _ R.lt, R.cell j hj]
  exact hu

theorem RowU.mono {w : World} {base base' g cap : Nat} {c : Nat → Int} {n : Nat} (R : RowU w base g cap c n) (h : base' ≤ base) : RowU w base' g cap c n := ⟨Nat.le_trans h R.base, R.lt, R.cell, R.free⟩
theorem grown_new {w w' : World} {o : Obj} (h : (w.alloc o).grownBy w' (some w.heap.size)) : w.grownBy w' none :=
  ⟨h.os, h.tape, h.output, by have := h.size; simp at this; omega, fun k hk _ => (h.block k (by simp; omega) (fun e => by injection e with e; omega)).trans (Below.heap_alloc _ _ _ hk)⟩
theorem grown_set {w w' : World} {g k : Nat} {v : Value} (h : w.grownBy w' none) (hb : w.heap.size ≤ g) : w.grownBy (w'.setCell ⟨g, k, none⟩ v) none :=
  ⟨h.os, h.tape, h.output, by simpa [World.setCell] using h.size, fun i hi hne => (Below.heap_setCell _ _ _ _ (by simp; omega)).trans (h.block i hi hne)⟩

theorem infoU : (Try.prog.info? 28).map (fun i => (i.zero, i.size, i.bytes)) = some (some (.int .u64 0), 1, 8) := by kernel_rfl

section
variable (w : World) (g cap n : Nat) (c : Nat → Int)

theorem is_any (a : Option Addr) (i : Int) : Calls Try.prog 31 #[.slice a n cap, .int .i64 i] w fun e w' => e = .returned (.bool (decide (0 ≤ i ∧ i < (n : Int)))) ∧ w = w' := by
  by_cases h : 0 ≤ i
  · go_enter Try.func31, Try.ntmps31
    go_wp2
    go_ret
    exact ⟨by simp [h], rfl⟩
  · go_enter Try.func31, Try.ntmps31
    go_wp2
    go_ret
    exact ⟨by simp [h]; omega, rfl⟩

/-- What a function that hands back counts leaves. -/
def Out (w : World) (base : Nat) (c : Nat → Int) (n : Nat) (v : Value) (w' : World) : Prop := ∃ g cap, v = .slice (some ⟨g, 0, none⟩) n cap ∧ RowU w' base g cap c n ∧ w.grownBy w' none

theorem with_ok (base : Nat) (hbs : base ≤ w.heap.size) (R : RowU w base g cap c n) (hn : n ≤ 16) (k : Nat) (hk : k < n) (y : Int) :
    Calls Try.prog 32 #[.slice (some ⟨g, 0, none⟩) n cap, .int .i64 k, .int .u64 y] w fun e w' => ∃ v, e = .returned v ∧ Out w base (upd c k y) n v w' := by
  obtain ⟨i0, hi, hz0, hz1, hz2⟩ := info_parts infoU
  have hown : (w.alloc (.cells #[] 28)).ownsRow w.heap.size 28 1 (.slice (some ⟨w.heap.size, 0, none⟩) 0 0) 0 [] := World.ownsRow_made w #[] 0 (Nat.le_refl _) (by unfold maxLen; omega) rfl
  go_enter Try.func32, Try.ntmps32
  go_wp2_with (at_builtin; refine wpList_append_own _ rfl _ _ 34 rfl w.heap.size 28 i0 (.int .u64 0) 1 8 Try.underlying34 hi hz0 hz1 hz2 rfl (by decide) _ _ _ rfl hown ⟨g, 0, none⟩ n cap (cl c n) rfl (by rw [cl_len]; omega) (cl_cells R) (cl_one c n) (by unfold maxLen; omega) (by omega) (by simp) ?_)
  intro v' w' hown' hgrow _
  obtain ⟨g', cap', rfl, R'⟩ := RowU.of_owns hown' (by omega)
  have hc' := R'.cell k hk
  have hf' := R'.free k
  have hg0 : w.grownBy w' none := grown_new hgrow
  clear hown' hgrow hown
  go_wp2
  go_ret
  exact ⟨_, rfl, g', cap', rfl, (R'.set k hk y).mono hbs, grown_set hg0 R'.base⟩
end
end Go.Proofs.Ytimicedinjacaaa
