/-
  A meter that is nil, or that no call made: what each method answers.
-/
import Derived.Test.YtimicedinjacaaaLives
namespace Go.Proofs.Ytimicedinjacaaa
open Go.RowKit

/-- v is no meter: nil, or one of no counts. -/
def NoM (w : World) (v : Value) : Prop := v = .pointer none ∨ ∃ b c, v = .pointer (some ⟨b, 0, none⟩) ∧ MAt w b c 0

theorem NoM.grown {w w' : World} {v : Value} (h : NoM w v) (hg : w.grownBy w' none) : NoM w' v := by
  rcases h with rfl | ⟨b, c, rfl, h⟩
  · exact .inl rfl
  · exact .inr ⟨b, c, rfl, h.grown hg (by simp)⟩

section
variable (w : World) (v : Value) (h : NoM w v)
include h

theorem len_no : Calls Try.prog 13 #[v] w fun e w' => e = .returned (.int .i64 0) ∧ w = w' := by
  rcases h with rfl | ⟨b, c, rfl, h⟩
  · exact len_nil w
  · exact len_some w b c 0 h

theorem at_no (i : Int) : Calls Try.prog 17 #[v, .int .i64 i] w fun e w' => e = .returned (.tuple #[.pointer none, .int .i64 1]) ∧ w = w' := by
  rcases h with rfl | ⟨b, c, rfl, h⟩
  · exact at_nil w i
  · exact at_zero w b c h i

theorem all_no : Calls Try.prog 11 #[v] w fun e w' => e = .returned (.slice none 0 0) ∧ w = w' := by
  have hl := len_no w v h
  have HL := Lib.hid hl
  clear hl h
  go_enter Try.func11, Try.ntmps11
  go_wp2_with (go_at_call 13; refine HL.out.mono ?_; rintro e w' ⟨rfl, rfl⟩)
  go_loop [2, 6] (fun r i => r = .slice none 0 0 ∧ i = .int .i64 0) (fun _ _ => 0)
  case atStart => exact ⟨rfl, rfl⟩
  case round =>
    obtain ⟨rfl, rfl⟩ := hrel
    go_wp2
    go_ret
    exact ⟨rfl, rfl⟩

theorem sum_no : Calls Try.prog 12 #[v] w fun e w' => e = .returned (.int .u64 0) ∧ w = w' := by
  have HL := Lib.hid (all_no w v h)
  clear h
  go_enter Try.func12, Try.ntmps12
  go_wp2_with (go_at_call 11; refine HL.out.mono ?_; rintro e w' ⟨rfl, rfl⟩)
  go_loop [2, 8] (fun r i => r = .int .u64 0 ∧ i = .int .i64 0) (fun _ _ => 0)
  case atStart => exact ⟨rfl, rfl⟩
  case round =>
    obtain ⟨rfl, rfl⟩ := hrel
    go_wp2
    go_ret
    exact ⟨rfl, rfl⟩
end

theorem at_nog (w : World) (v : Value) (h : NoM w v) (i : Int) (W : World) (hg : w.grownBy W none) : Calls Try.prog 17 #[v, .int .i64 i] W fun e w' => e = .returned (.tuple #[.pointer none, .int .i64 1]) ∧ W = w' :=
  at_no W v (h.grown hg) i

end Go.Proofs.Ytimicedinjacaaa
