/-
  Contracts of the reference's Add, Raise, Swap, Get and Once.
-/
import Derived.Test.YtimicedinjacaaaRef
namespace Go.Proofs.Ytimicedinjacaaa
open Go.RowKit

theorem RowU.drew {w : World} {base g cap : Nat} {c : Nat → Int} {n : Nat} (R : RowU w base g cap c n) : RowU w.drew base g cap c n := ⟨R.base, R.lt, R.cell, R.free⟩
theorem Out.of_drew {w w' : World} {base n : Nat} {c : Nat → Int} {v : Value} (h : Out w.drew base c n v w') : Out w base c n v w' := by
  obtain ⟨g, cap, hv, R, hg⟩ := h
  exact ⟨g, cap, hv, R, ⟨hg.os, hg.tape, hg.output, hg.size, hg.block⟩⟩

section
variable (w : World) (base g cap n : Nat) (c : Nat → Int) (hbs : base ≤ w.heap.size) (R : RowU w base g cap c n) (hn : n ≤ 16)

theorem refAdd_no (i : Int) (y : Int) (h : i < 0 ∨ (n : Int) ≤ i) (a : Option Addr) :
    Calls Try.prog 26 #[.slice a n cap, .int .i64 i, .int .u64 y] w fun e w' => e = .returned (.tuple #[.slice a n cap, .int .u64 0, .int .i64 2]) ∧ w = w' := by
  have hd : decide (0 ≤ i ∧ i < (n : Int)) = false := by simp; omega
  go_enter Try.func26, Try.ntmps26
  go_wp2_with (go_at_call 31; refine (is_any _ _ _ _ _).mono ?_; rintro e w' ⟨rfl, rfl⟩)
  go_ret3
  exact ⟨rfl, rfl⟩

theorem refRaise_no (i : Int) (y : Int) (h : i < 0 ∨ (n : Int) ≤ i) (a : Option Addr) :
    Calls Try.prog 22 #[.slice a n cap, .int .i64 i, .int .u64 y] w fun e w' => e = .returned (.tuple #[.slice a n cap, .int .i64 2]) ∧ w = w' := by
  have hd : decide (0 ≤ i ∧ i < (n : Int)) = false := by simp; omega
  go_enter Try.func22, Try.ntmps22
  go_wp2_with (go_at_call 31; refine (is_any _ _ _ _ _).mono ?_; rintro e w' ⟨rfl, rfl⟩)
  go_ret2
  exact ⟨rfl, rfl⟩

theorem refSwap_no (i : Int) (y : Int) (h : i < 0 ∨ (n : Int) ≤ i) (a : Option Addr) :
    Calls Try.prog 23 #[.slice a n cap, .int .i64 i, .int .u64 y] w fun e w' => e = .returned (.tuple #[.slice a n cap, .int .u64 0, .int .i64 2]) ∧ w = w' := by
  have hd : decide (0 ≤ i ∧ i < (n : Int)) = false := by simp; omega
  go_enter Try.func23, Try.ntmps23
  go_wp2_with (go_at_call 31; refine (is_any _ _ _ _ _).mono ?_; rintro e w' ⟨rfl, rfl⟩)
  go_ret3
  exact ⟨rfl, rfl⟩

theorem refGet_no (i : Int) (h : i < 0 ∨ (n : Int) ≤ i) (a : Option Addr) :
    Calls Try.prog 25 #[.slice a n cap, .int .i64 i] w fun e w' => e = .returned (.int .u64 0) ∧ w = w' := by
  have hd : decide (0 ≤ i ∧ i < (n : Int)) = false := by simp; omega
  go_enter Try.func25, Try.ntmps25
  go_wp2_with (go_at_call 31; refine (is_any _ _ _ _ _).mono ?_; rintro e w' ⟨rfl, rfl⟩)
  go_ret
  exact ⟨rfl, rfl⟩

theorem refOnce_no (i : Int) (h : i < 0 ∨ (n : Int) ≤ i) (a : Option Addr) :
    Calls Try.prog 24 #[.slice a n cap, .int .i64 i] w fun e w' => e = .returned (.tuple #[.slice a n cap, .bool false]) ∧ w = w' := by
  have hd : decide (0 ≤ i ∧ i < (n : Int)) = false := by simp; omega
  go_enter Try.func24, Try.ntmps24
  go_wp2_with (go_at_call 31; refine (is_any _ _ _ _ _).mono ?_; rintro e w' ⟨rfl, rfl⟩)
  go_ret2
  exact ⟨rfl, rfl⟩

include R in
theorem refGet_in (k : Nat) (hk : k < n)  :
    Calls Try.prog 25 #[.slice (some ⟨g, 0, none⟩) n cap, .int .i64 k] w fun e w' => e = .returned (.int .u64 (c k)) ∧ w = w' := by
  have hd : decide (0 ≤ (k : Int) ∧ (k : Int) < (n : Int)) = true := by simp; omega
  have hc := R.cell k hk
  go_enter Try.func25, Try.ntmps25
  go_wp2_with (first | (go_at_call 31; refine (is_any _ _ _ _ _).mono ?_; rintro e w' ⟨rfl, rfl⟩))
  go_ret
  exact ⟨rfl, rfl⟩

include R in
theorem refOnce_miss (k : Nat) (hk : k < n) (hz : ¬ c k = 0) :
    Calls Try.prog 24 #[.slice (some ⟨g, 0, none⟩) n cap, .int .i64 k] w fun e w' => e = .returned (.tuple #[.slice (some ⟨g, 0, none⟩) n cap, .bool false]) ∧ w = w' := by
  have hd : decide (0 ≤ (k : Int) ∧ (k : Int) < (n : Int)) = true := by simp; omega
  have hc := R.cell k hk
  go_enter Try.func24, Try.ntmps24
  go_wp2_with (first | (go_at_call 31; refine (is_any _ _ _ _ _).mono ?_; rintro e w' ⟨rfl, rfl⟩))
  go_ret2
  exact ⟨rfl, rfl⟩

include hbs R hn in
theorem refOnce_hit (k : Nat) (hk : k < n) (hz : c k = 0) :
    Calls Try.prog 24 #[.slice (some ⟨g, 0, none⟩) n cap, .int .i64 k] w fun e w' => ∃ v, e = .returned (.tuple #[v, .bool true]) ∧ Out w base (upd c k 1) n v w' := by
  have hd : decide (0 ≤ (k : Int) ∧ (k : Int) < (n : Int)) = true := by simp; omega
  have hc := R.cell k hk
  rw [hz] at hc
  clear hz
  go_enter Try.func24, Try.ntmps24
  go_wp2_with (first | (go_at_call 31; refine (is_any _ _ _ _ _).mono ?_; rintro e w' ⟨rfl, rfl⟩) | (go_at_call 32; refine (with_ok _ _ _ _ _ base hbs R hn k hk _).mono ?_; rintro e w1 ⟨v, rfl, ho⟩; obtain ⟨g1, cap1, hv, R1, hg1⟩ := ho; subst hv; have hc1 := (R.grown hg1 (by simp)).cell k hk))
  go_ret2
  all_goals exact ⟨_, rfl, g1, cap1, rfl, R1, hg1⟩

include R in
theorem refSwap_big (k : Nat) (hk : k < n) (y : Int) (hy : 4611686018427387904 < y) :
    Calls Try.prog 23 #[.slice (some ⟨g, 0, none⟩) n cap, .int .i64 k, .int .u64 y] w fun e w' => e = .returned (.tuple #[.slice (some ⟨g, 0, none⟩) n cap, .int .u64 0, .int .i64 10]) ∧ w = w' := by
  have hd : decide (0 ≤ (k : Int) ∧ (k : Int) < (n : Int)) = true := by simp; omega
  have hc := R.cell k hk
  go_enter Try.func23, Try.ntmps23
  go_wp2_with (first | (go_at_call 31; refine (is_any _ _ _ _ _).mono ?_; rintro e w' ⟨rfl, rfl⟩))
  go_ret3
  exact ⟨rfl, rfl⟩

include R in
theorem refRaise_big (k : Nat) (hk : k < n) (y : Int) (hy : 4611686018427387904 < y) :
    Calls Try.prog 22 #[.slice (some ⟨g, 0, none⟩) n cap, .int .i64 k, .int .u64 y] w fun e w' => e = .returned (.tuple #[.slice (some ⟨g, 0, none⟩) n cap, .int .i64 10]) ∧ w = w' := by
  have hd : decide (0 ≤ (k : Int) ∧ (k : Int) < (n : Int)) = true := by simp; omega
  have hc := R.cell k hk
  go_enter Try.func22, Try.ntmps22
  go_wp2_with (first | (go_at_call 31; refine (is_any _ _ _ _ _).mono ?_; rintro e w' ⟨rfl, rfl⟩))
  go_ret2
  exact ⟨rfl, rfl⟩

include R in
theorem refRaise_le (k : Nat) (hk : k < n) (y : Int) (hy : y ≤ 4611686018427387904) (hy2 : y ≤ c k) :
    Calls Try.prog 22 #[.slice (some ⟨g, 0, none⟩) n cap, .int .i64 k, .int .u64 y] w fun e w' => e = .returned (.tuple #[.slice (some ⟨g, 0, none⟩) n cap, .int .i64 0]) ∧ w = w' := by
  have hd : decide (0 ≤ (k : Int) ∧ (k : Int) < (n : Int)) = true := by simp; omega
  have hc := R.cell k hk
  go_enter Try.func22, Try.ntmps22
  go_wp2_with (first | (go_at_call 31; refine (is_any _ _ _ _ _).mono ?_; rintro e w' ⟨rfl, rfl⟩))
  go_ret2
  exact ⟨rfl, rfl⟩

include hbs R hn in
theorem refRaise_ok (k : Nat) (hk : k < n) (y : Int) (hy : y ≤ 4611686018427387904) (hy2 : c k < y) :
    Calls Try.prog 22 #[.slice (some ⟨g, 0, none⟩) n cap, .int .i64 k, .int .u64 y] w fun e w' => ∃ v, e = .returned (.tuple #[v, .int .i64 0]) ∧ Out w base (upd c k y) n v w' := by
  have hd : decide (0 ≤ (k : Int) ∧ (k : Int) < (n : Int)) = true := by simp; omega
  have hc := R.cell k hk
  go_enter Try.func22, Try.ntmps22
  go_wp2_with (first | (go_at_call 31; refine (is_any _ _ _ _ _).mono ?_; rintro e w' ⟨rfl, rfl⟩) | (go_at_call 32; refine (with_ok _ _ _ _ _ base hbs R hn k hk _).mono ?_; rintro e w1 ⟨v, rfl, ho⟩; obtain ⟨g1, cap1, hv, R1, hg1⟩ := ho; subst hv; have hc1 := (R.grown hg1 (by simp)).cell k hk))
  go_ret2
  all_goals exact ⟨_, rfl, g1, cap1, rfl, R1, hg1⟩

include R in
theorem refAdd_big (k : Nat) (hk : k < n) (y : Int) (h0 : 0 ≤ c k) (h1 : c k ≤ 4611686018427387904) (hy : 4611686018427387904 - c k < y) :
    Calls Try.prog 26 #[.slice (some ⟨g, 0, none⟩) n cap, .int .i64 k, .int .u64 y] w fun e w' => e = .returned (.tuple #[.slice (some ⟨g, 0, none⟩) n cap, .int .u64 0, .int .i64 10]) ∧ w = w' := by
  have hd : decide (0 ≤ (k : Int) ∧ (k : Int) < (n : Int)) = true := by simp; omega
  have hc := R.cell k hk
  go_enter Try.func26, Try.ntmps26
  go_wp2_with (first | (go_at_call 31; refine (is_any _ _ _ _ _).mono ?_; rintro e w' ⟨rfl, rfl⟩))
  go_ret3
  exact ⟨rfl, rfl⟩

include hbs R hn in
theorem refSwap_ok (k : Nat) (hk : k < n) (y : Int) (hy : y ≤ 4611686018427387904) :
    Calls Try.prog 23 #[.slice (some ⟨g, 0, none⟩) n cap, .int .i64 k, .int .u64 y] w fun e w' => ∃ v, e = .returned (.tuple #[v, .int .u64 (c k), .int .i64 0]) ∧ Out w base (upd c k y) n v w' := by
  have hd : decide (0 ≤ (k : Int) ∧ (k : Int) < (n : Int)) = true := by simp; omega
  have hc := R.cell k hk
  go_enter Try.func23, Try.ntmps23
  go_wp2_with (go_at_call 31; refine (is_any _ _ _ _ _).mono ?_; rintro e w' ⟨rfl, rfl⟩)
  go_region_with (go_at_call 32; refine (with_ok w.drew _ _ _ _ base hbs R.drew hn k hk _).mono ?_; rintro e w1 ⟨v, rfl, ho⟩; obtain ⟨g1, cap1, hv, R1, hg1⟩ := ho.of_drew; subst hv; have hc1 := (R.grown hg1 (by simp)).cell k hk)
  all_goals go_wp2
  all_goals go_ret3
  all_goals exact ⟨_, rfl, g1, cap1, rfl, R1, hg1⟩

include hbs R hn in
theorem refAdd_ok (k : Nat) (hk : k < n) (y : Int) (h0 : 0 ≤ c k) (h1 : c k ≤ 4611686018427387904) (hy0 : 0 ≤ y) (hy : y ≤ 4611686018427387904 - c k) :
    Calls Try.prog 26 #[.slice (some ⟨g, 0, none⟩) n cap, .int .i64 k, .int .u64 y] w fun e w' => ∃ v, e = .returned (.tuple #[v, .int .u64 (c k + y), .int .i64 0]) ∧ Out w base (upd c k (c k + y)) n v w' := by
  have hd : decide (0 ≤ (k : Int) ∧ (k : Int) < (n : Int)) = true := by simp; omega
  have hc := R.cell k hk
  have hwr : IntKind.u64.wrap (c k + y) = c k + y := by simp [IntKind.wrap, IntKind.bits, IntKind.signed]; omega
  go_enter Try.func26, Try.ntmps26
  go_wp2_with (go_at_call 31; refine (is_any _ _ _ _ _).mono ?_; rintro e w' ⟨rfl, rfl⟩)
  go_region_with (go_at_call 32; refine (with_ok w.drew _ _ _ _ base hbs R.drew hn k hk _).mono ?_; rintro e w1 ⟨v, rfl, ho⟩; obtain ⟨g1, cap1, hv, R1, hg1⟩ := ho.of_drew; subst hv; have hc1 := (R.grown hg1 (by simp)).cell k hk)
  all_goals go_wp2
  all_goals go_ret3
  all_goals exact ⟨_, rfl, g1, cap1, rfl, R1, hg1⟩

end
end Go.Proofs.Ytimicedinjacaaa
