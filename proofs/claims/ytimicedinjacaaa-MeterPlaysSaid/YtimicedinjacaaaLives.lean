/-
  The chapter's example, which each law of chapter 05 looks at.
-/
import Derived.Test.YtimicedinjacaaaCalls
namespace Go.Proofs.Ytimicedinjacaaa
open Go.RowKit

theorem nob_of_stp {w w' : World} {o : Obj} {c : Nat → Int} {n : Int} (s : Stp (w.alloc o) w.heap.size c n w') : Nob w w' :=
  ⟨s.grown.os, s.grown.tape, s.grown.output, by have := s.grown.size; simp at this; omega,
    fun k hk _ => (s.grown.block k (by simp; omega) (fun e => by cases e; omega)).trans (Below.heap_alloc _ _ _ hk)⟩
theorem Nob.trans {w w1 w2 : World} (s : Nob w w1) (t : Nob w1 w2) : Nob w w2 :=
  ⟨t.os.trans s.os, t.tape.trans s.tape, t.output.trans s.output, Nat.le_trans s.size t.size,
    fun k hk _ => (t.block k (Nat.lt_of_lt_of_le hk s.size) (by simp)).trans (s.block k hk (by simp))⟩
theorem mat_new (w : World) (c : Nat → Int) (n : Int) : MAt (w.alloc (.cells (mcells c n) 52)) w.heap.size c n := by
  unfold MAt; exact heap_alloc_new w _

theorem lives_true (w : World) : Calls Try.prog 6 #[] w fun e w' => e = .returned (.bool true) ∧ Nob w w' := by
  go_enter Try.func6, Try.ntmps6
  go_wp2_with (first
    | (go_at_call 7; refine (new_some _ _ (by decide) (by decide)).mono ?_; rintro e w' ⟨rfl, rfl⟩)
    | (go_at_call 14; refine (add_ok _ _ _ _ (mat_new _ _ _) (by decide) 1 (by decide) _ (by decide) (by decide) (by decide)).mono ?_; rintro e w1 ⟨rfl, s1⟩)
    | (go_at_call 16; refine (raise_ok _ _ _ _ s1.at_ (by decide) 1 (by decide) _ (by decide)).mono ?_; rintro e w2 ⟨rfl, s2⟩)
    | (go_at_call 9; refine (swap_ok _ _ _ _ s2.at_ (by decide) 1 (by decide) _ (by decide)).mono ?_; rintro e w3 ⟨rfl, s3⟩)
    | (go_at_call 15; refine (get_in _ _ _ _ s3.at_ (by decide) 1 (by decide)).mono ?_; rintro e w' ⟨rfl, rfl⟩))
  go_ret
  exact ⟨by simp [upd], nob_of_stp ((s1.trans s2).trans s3)⟩

end Go.Proofs.Ytimicedinjacaaa
