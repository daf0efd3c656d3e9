/-
  Contracts of the functions of package meter, for the laws of chapter 05: what each does to the block of a meter.
-/
import Derived.Test.YtimicedinjacaaaProg
import Derived.WalkKit
import Derived.WalkLawsBesides
import Derived.WalkSpells
import Derived.Lib.Hide
namespace Go.Proofs.Ytimicedinjacaaa
open Go.RowKit

def mcells (c : Nat → Int) (n : Int) : Array Value :=
  #[.int .u64 (c 0), .int .u64 (c 1), .int .u64 (c 2), .int .u64 (c 3), .int .u64 (c 4), .int .u64 (c 5), .int .u64 (c 6), .int .u64 (c 7),
    .int .u64 (c 8), .int .u64 (c 9), .int .u64 (c 10), .int .u64 (c 11), .int .u64 (c 12), .int .u64 (c 13), .int .u64 (c 14), .int .u64 (c 15), .int .i64 n]

/-- Block b of w is a meter with counts c, of which n are used. -/
def MAt (w : World) (b : Nat) (c : Nat → Int) (n : Int) : Prop := w.heap[b]? = some (.cells (mcells c n) 52 (0, 0))

def upd (c : Nat → Int) (k : Nat) (v : Int) : Nat → Int := fun j => if j = k then v else c j

theorem mcells_get (c : Nat → Int) (n : Int) (k : Nat) (h : k < 16) : (mcells c n)[k]? = some (.int .u64 (c k)) := by
  have : k = 0 ∨ k = 1 ∨ k = 2 ∨ k = 3 ∨ k = 4 ∨ k = 5 ∨ k = 6 ∨ k = 7 ∨ k = 8 ∨ k = 9 ∨ k = 10 ∨ k = 11 ∨ k = 12 ∨ k = 13 ∨ k = 14 ∨ k = 15 := by omega
  rcases this with rfl | rfl | rfl | rfl | rfl | rfl | rfl | rfl | rfl | rfl | rfl | rfl | rfl | rfl | rfl | rfl <;> rfl

theorem mcells_set (c : Nat → Int) (n : Int) (k : Nat) (h : k < 16) (v : Int) : (mcells c n).setIfInBounds k (.int .u64 v) = mcells (upd c k v) n := by
  have : k = 0 ∨ k = 1 ∨ k = 2 ∨ k = 3 ∨ k = 4 ∨ k = 5 ∨ k = 6 ∨ k = 7 ∨ k = 8 ∨ k = 9 ∨ k = 10 ∨ k = 11 ∨ k = 12 ∨ k = 13 ∨ k = 14 ∨ k = 15 := by omega
  rcases this with rfl | rfl | rfl | rfl | rfl | rfl | rfl | rfl | rfl | rfl | rfl | rfl | rfl | rfl | rfl | rfl <;> rfl

theorem MAt.cell {w : World} {b : Nat} {c : Nat → Int} {n : Int} (h : MAt w b c n) (k : Nat) (hk : k < 16) : w.cell? ⟨b, k, none⟩ = some (.int .u64 (c k)) := by
  unfold MAt at h; simp [World.cell?, h, mcells_get c n k hk]
theorem MAt.num {w : World} {b : Nat} {c : Nat → Int} {n : Int} (h : MAt w b c n) : w.cell? ⟨b, 16, none⟩ = some (.int .i64 n) := by
  unfold MAt at h; simp [World.cell?, h]; rfl
theorem MAt.free {w : World} {b : Nat} {c : Nat → Int} {n : Int} (h : MAt w b c n) (k : Nat) : w.frozen? ⟨b, k, none⟩ = false := by
  unfold MAt at h; simp [World.frozen?, h]
theorem MAt.lt {w : World} {b : Nat} {c : Nat → Int} {n : Int} (h : MAt w b c n) : b < w.heap.size := lt_of_block h
theorem MAt.set {w : World} {b : Nat} {c : Nat → Int} {n : Int} (h : MAt w b c n) (k : Nat) (hk : k < 16) (v : Int) : MAt (w.setCell ⟨b, k, none⟩ (.int .u64 v)) b (upd c k v) n := by
  unfold MAt at h ⊢
  simp only [World.setCell, Array.getElem?_modify, ↓reduceIte, h, Option.map_some, Option.isSome_none, Bool.false_eq_true, mcells_set c n k hk v]
theorem MAt.alloc {w : World} {b : Nat} {c : Nat → Int} {n : Int} (h : MAt w b c n) (o : Obj) : MAt (w.alloc o) b c n := by
  unfold MAt; rw [Below.heap_alloc _ _ _ h.lt]; exact h
theorem MAt.grown {w w' : World} {b : Nat} {c : Nat → Int} {n : Int} {row : Option Nat} (h : MAt w b c n) (hg : w.grownBy w' row) (hne : row ≠ some b) : MAt w' b c n := by
  unfold MAt; rw [hg.block b h.lt (fun e => hne e.symm)]; exact h

theorem len_some (w : World) (b : Nat) (c : Nat → Int) (n : Int) (h : MAt w b c n) :
    Calls Try.prog 13 #[.pointer (some ⟨b, 0, none⟩)] w fun e w' => e = .returned (.int .i64 n) ∧ w = w' := by
  have hn := h.num
  go_enter Try.func13, Try.ntmps13
  go_wp2
  go_ret
  exact ⟨rfl, rfl⟩

theorem len_nil (w : World) : Calls Try.prog 13 #[.pointer none] w fun e w' => e = .returned (.int .i64 0) ∧ w = w' := by
  go_enter Try.func13, Try.ntmps13
  go_wp2
  go_ret
  exact ⟨rfl, rfl⟩

theorem at_nil (w : World) (i : Int) : Calls Try.prog 17 #[.pointer none, .int .i64 i] w fun e w' => e = .returned (.tuple #[.pointer none, .int .i64 1]) ∧ w = w' := by
  go_enter Try.func17, Try.ntmps17
  go_wp2_with (go_at_call 13; refine (len_nil _).mono ?_; rintro e w' ⟨rfl, rfl⟩)
  go_ret2
  exact ⟨rfl, rfl⟩

theorem at_zero (w : World) (b : Nat) (c : Nat → Int) (h : MAt w b c 0) (i : Int) : Calls Try.prog 17 #[.pointer (some ⟨b, 0, none⟩), .int .i64 i] w fun e w' => e = .returned (.tuple #[.pointer none, .int .i64 1]) ∧ w = w' := by
  go_enter Try.func17, Try.ntmps17
  go_wp2_with (go_at_call 13; refine (len_some _ _ _ _ h).mono ?_; rintro e w' ⟨rfl, rfl⟩)
  go_ret2
  exact ⟨rfl, rfl⟩

theorem at_out (w : World) (b : Nat) (c : Nat → Int) (n : Int) (h : MAt w b c n) (hn : 1 ≤ n) (i : Int) (hi : i < 0 ∨ n ≤ i) :
    Calls Try.prog 17 #[.pointer (some ⟨b, 0, none⟩), .int .i64 i] w fun e w' => e = .returned (.tuple #[.pointer none, .int .i64 2]) ∧ w = w' := by
  have hnum := h.num
  rcases hi with hi | hi
  · go_enter Try.func17, Try.ntmps17
    go_wp2_with (go_at_call 13; refine (len_some _ _ _ _ h).mono ?_; rintro e w' ⟨rfl, rfl⟩)
    go_ret2
    exact ⟨rfl, rfl⟩
  · have hi0 : ¬ i < 0 := by omega
    go_enter Try.func17, Try.ntmps17
    go_wp2_with (go_at_call 13; refine (len_some _ _ _ _ h).mono ?_; rintro e w' ⟨rfl, rfl⟩)
    go_ret2
    exact ⟨rfl, rfl⟩

theorem at_in (w : World) (b : Nat) (c : Nat → Int) (n : Int) (h : MAt w b c n) (hn : n ≤ 16) (k : Nat) (hk : (k : Int) < n) :
    Calls Try.prog 17 #[.pointer (some ⟨b, 0, none⟩), .int .i64 k] w fun e w' => e = .returned (.tuple #[.pointer (some ⟨b, k, none⟩), .int .i64 0]) ∧ w = w' := by
  have hnum := h.num
  go_enter Try.func17, Try.ntmps17
  go_wp2_with (go_at_call 13; refine (len_some _ _ _ _ h).mono ?_; rintro e w' ⟨rfl, rfl⟩)
  go_ret2
  exact ⟨rfl, rfl⟩

end Go.Proofs.Ytimicedinjacaaa
