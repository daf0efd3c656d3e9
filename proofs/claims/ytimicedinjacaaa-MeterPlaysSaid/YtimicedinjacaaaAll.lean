/-
  Contracts of the methods All and Sum of a meter that has counts.
-/
import Derived.Test.YtimicedinjacaaaDo
namespace Go.Proofs.Ytimicedinjacaaa
open Go.RowKit

/-- The sum of the first k counts, as uint64 adds them up. -/
def sumW (c : Nat → Int) : Nat → Int
  | 0 => 0
  | k + 1 => IntKind.u64.wrap (sumW c k + c k)

theorem cl_succ (c : Nat → Int) (k : Nat) : cl c k ++ [.int .u64 (c k)] = cl c (k + 1) := by simp [cl, List.range_succ]

theorem grown_row {w wr w1 : World} {v : Value} {n : Nat} {e : TypeId} {sz : Nat} {xs : List Value} {o : Obj} (hg : w.grownBy wr none) (hown : wr.ownsRow w.heap.size e sz v n xs) (h : (wr.alloc o).grownBy w1 v.ownBlock) : w.grownBy w1 none :=
  ⟨h.os.trans hg.os, h.tape.trans hg.tape, h.output.trans hg.output, by have := h.size; have := hg.size; simp at *; omega,
    fun i hi _ => by
      have hs := hg.size
      refine (h.block i (by simp; omega) (fun e => ?_)).trans ((Below.heap_alloc _ _ _ (by omega)).trans (hg.block i hi (by simp)))
      have := hown.lt i e.symm
      omega⟩

theorem all_some (w : World) (b n : Nat) (c : Nat → Int) (h : MAt w b c n) (h1 : 1 ≤ n) (hn : n ≤ 16) :
    Calls Try.prog 11 #[.pointer (some ⟨b, 0, none⟩)] w fun e w' => ∃ v, e = .returned v ∧ Out w w.heap.size c n v w' := by
  obtain ⟨i0, hi, hz0, hz1, hz2⟩ := info_parts infoU
  go_enter Try.func11, Try.ntmps11
  go_wp2_with (go_at_call 13; refine (len_some _ _ _ _ h).mono ?_; rintro e w' ⟨rfl, rfl⟩)
  go_loopw [2, 6] (fun v i wr => ∃ k : Nat, k ≤ n ∧ i = .int .i64 k ∧ wr.ownsRow w.heap.size 28 1 v k (cl c k) ∧ w.grownBy wr none) (fun _ i _ => n - (intOf i).toNat)
  case atStart => exact ⟨0, Nat.zero_le _, rfl, World.ownsRow_nil _ _ _ _, World.grownBy.refl _ _⟩
  case round =>
    obtain ⟨k, hk, rfl, hown, hg⟩ := hrel
    by_cases hlt : k < n
    · have hM := h.grown hg (by simp)
      have hc := hM.cell k (by omega)
      have hs := hg.size
      go_wp2_with (first
        | (go_at_call 27; refine (load_any _ _ _ _ hc).mono ?_; rintro e w' ⟨rfl, rfl⟩)
        | (at_builtin; refine wpList_append_own _ rfl _ _ 34 rfl w.heap.size 28 i0 (.int .u64 0) 1 8 Try.underlying34 hi hz0 hz1 hz2 rfl (by decide) _ _ _ rfl (hown.alloc _) ⟨wr.heap.size, 0, none⟩ 1 1 [.int .u64 (c k)] rfl rfl (cell_one_new _ _ _) (ints_oneCell .u64 [c k]) (by unfold maxLen; omega) (by omega) (by simp; omega) ?_))
      intro v' w1 hown' hgrow _
      rw [cl_succ] at hown'
      have hg1 : w.grownBy w1 none := grown_row hg hown hgrow
      clear hown hgrow hM hc
      go_wp2
      go_roundw
      case rel => exact ⟨k + 1, by omega, by go_num, hown', hg1⟩
      case measure => simp [intOf]; omega
    · have e : k = n := by omega
      subst e
      obtain ⟨g, cap, rfl, R⟩ := RowU.of_owns hown (by omega)
      go_wp2
      go_ret
      exact ⟨_, rfl, g, cap, rfl, R, hg⟩

theorem sum_some (w : World) (b n : Nat) (c : Nat → Int) (h : MAt w b c n) (h1 : 1 ≤ n) (hn : n ≤ 16) :
    Calls Try.prog 12 #[.pointer (some ⟨b, 0, none⟩)] w fun e w' => e = .returned (.int .u64 (sumW c n)) ∧ w.grownBy w' none := by
  go_enter Try.func12, Try.ntmps12
  go_wp2_with (go_at_call 11; refine (all_some _ _ _ _ h h1 hn).mono ?_; rintro e w1 ⟨v, rfl, ho⟩; obtain ⟨g, cap, hv, R, hg⟩ := ho; subst hv)
  go_loop [2, 8] (fun r i => ∃ k : Nat, k ≤ n ∧ i = .int .i64 k ∧ r = .int .u64 (sumW c k)) (fun _ i => n - (intOf i).toNat)
  case atStart => exact ⟨0, Nat.zero_le _, rfl, rfl⟩
  case round =>
    obtain ⟨k, hk, rfl, rfl⟩ := hrel
    by_cases hlt : k < n
    · have hc := R.cell k hlt
      go_wp2
      go_round
      case rel => exact ⟨k + 1, by omega, by go_num, rfl⟩
      case measure => simp [intOf]; omega
    · have e : k = n := by omega
      subst e
      go_wp2
      go_ret
      exact ⟨rfl, hg⟩
end Go.Proofs.Ytimicedinjacaaa
