/-
  That whether a ticket or a reply is sound is told at all.
-/
import Derived.Test.YtnffdpilaojgpaaSnd
import Derived.WalkKit
import Derived.Lib.Hide
namespace Go.Proofs.Ytnffdpilaojgpaa
set_option linter.unusedVariables false
set_option linter.unusedSimpArgs false
open Go.RowKit Go.Proofs.YtnffdpilaojgpaaW.PrintWords Go.Proofs.YtnffdpilaojgpaaW.PrintMore Go.Proofs.Ytnffdpilaojgpaa.PSessionOnce

/-- It tells a bool. -/
def Tells (w : World) (e : Ending) (w' : World) : Prop := ∃ b, e = .returned (.bool b) ∧ Below w.heap.size w w'

theorem instant_any (w : World) (x : Int) : Calls Try.prog 64 #[.int .i64 x] w fun e w' => ∃ b, e = .returned (.bool b) ∧ ∃ m, w' = w.drewN m := by
  obtain ⟨b, hb⟩ : ∃ b, ticket_instant.f x = some b := by
    unfold ticket_instant.f
    split <;> exact ⟨_, rfl⟩
  exact (ticket_instant.calls x b w hb).mono fun e w' he => ⟨b, he.1, let ⟨m, hm⟩ := he.2; ⟨m, hm⟩⟩

set_option maxRecDepth 100000 in
set_option maxHeartbeats 1600000 in
theorem ticket_any (w : World) (a0 a1 a2 a3 a4 a5 a6 a7 a8 : Int) :
    Calls Try.prog 45 #[.agg #[.int .u64 a0, .int .i64 a1, .int .i64 a2, .int .i64 a3, .int .u64 a4, .int .i64 a5, .int .i64 a6, .int .i64 a7, .int .i64 a8]] w (Tells w) := by
  go_enter Try.func45, Try.ntmps45
  go_wp2_with (go_at_call 64; refine (instant_any _ _).mono ?_; rintro e w1 ⟨b, rfl, m, rfl⟩; cases b)
  all_goals
    go_ret
    exact ⟨_, rfl, by repeat (first | exact Below.refl _ _ | apply below_alloc | apply pw_below_drewN | (refine below_set ?_ (Nat.le_refl _)))⟩

theorem none_any (w : World) (a0 a1 a2 a3 a4 a5 a6 a7 a8 : Int) :
    Calls Try.prog 44 #[.agg #[.int .u64 a0, .int .i64 a1, .int .i64 a2, .int .i64 a3, .int .u64 a4, .int .i64 a5, .int .i64 a6, .int .i64 a7, .int .i64 a8]] w (Tells w) :=
  (reply_none.calls a0 a1 a2 a3 a4 a5 a6 a7 a8 _ w rfl).mono fun e w' he => ⟨_, he.1, he.2⟩

/-- Whether a reply is sound is told. -/
theorem sound_any (w : World) (x : S35) (A : Option Addr) (c : Nat) :
    Calls Try.prog 28 #[.agg #[.int .i64 x.f0, .int .i64 x.f1, .int .u64 x.f2.f0, .int .i64 x.f2.f1, .int .i64 x.f2.f2, .int .i64 x.f2.f3, .int .u64 x.f2.f4, .int .i64 x.f2.f5, .int .i64 x.f2.f6, .int .i64 x.f2.f7, .int .i64 x.f2.f8, .slice A x.f3.length c, .int .u64 x.f4, .int .i64 x.f5]] w (Tells w) := by
  go_enter Try.func28, Try.ntmps28
  go_wp2_with (first
    | (go_at_call 44; refine (none_any _ _ _ _ _ _ _ _ _ _).mono ?_; rintro e w1 ⟨b, rfl, hb⟩; have bk := blk_below (heap_alloc_new w (.cells #[.int .i64 x.f0, .int .i64 x.f1, .int .u64 x.f2.f0, .int .i64 x.f2.f1, .int .i64 x.f2.f2, .int .i64 x.f2.f3, .int .u64 x.f2.f4, .int .i64 x.f2.f5, .int .i64 x.f2.f6, .int .i64 x.f2.f7, .int .i64 x.f2.f8, .slice A x.f3.length c, .int .u64 x.f4, .int .i64 x.f5] 35)) hb; have z2 := blk_cell bk 2; have z3 := blk_cell bk 3; have z4 := blk_cell bk 4; have z5 := blk_cell bk 5; have z6 := blk_cell bk 6; have z7 := blk_cell bk 7; have z8 := blk_cell bk 8; have z9 := blk_cell bk 9; have z10 := blk_cell bk 10; have hb1 := (below_alloc (Below.refl w.heap.size w) (.cells #[.int .i64 x.f0, .int .i64 x.f1, .int .u64 x.f2.f0, .int .i64 x.f2.f1, .int .i64 x.f2.f2, .int .i64 x.f2.f3, .int .u64 x.f2.f4, .int .i64 x.f2.f5, .int .i64 x.f2.f6, .int .i64 x.f2.f7, .int .i64 x.f2.f8, .slice A x.f3.length c, .int .u64 x.f4, .int .i64 x.f5] 35)).trans (hb.mono (by simp)); clear bk hb; cases b)
    | (go_at_call 45; refine (ticket_any _ _ _ _ _ _ _ _ _ _).mono ?_; rintro e w2 ⟨b, rfl, hb2⟩))
  all_goals
    go_ret
    first | exact ⟨_, rfl, hb1.trans (hb2.mono hb1.size)⟩ | exact ⟨_, rfl, by repeat (first | exact Below.refl _ _ | assumption | apply below_alloc | apply pw_below_drewN | (refine below_set ?_ (Nat.le_refl _)))⟩
end Go.Proofs.Ytnffdpilaojgpaa
