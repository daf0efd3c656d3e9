/-
  For every input curfewlaw05.MeterSizes returns true and leaves its arguments as they were. Conditions: none.
  (The frame of the row began as the shell that the kit's proof-skeleton.mjs writes; the walk is typed here.)
-/
import Derived.Test.YtimicedinjacaaaRows
import Derived.Test.YtimicedinjacaaaNone
import Derived.Deep.OwnRows
import Derived.WalkKit
import Derived.ProofKit
import Derived.OpenShut
import Derived.ShutString
namespace Go.Proofs.Ytimicedinjacaaa.meterSizes
open Go.ChangeShapes Go.WideShapes Go.ChangeAt Go.RowKit
open Go.ChangeMaps (open_string shut_string)
set_option linter.unusedVariables false      -- a walk need not use every 'w<i>' (that an integer argument fits its kind)

theorem own : ownKnob Try.prog.godebug = none := by kernel_rfl


theorem below_nob {w w' : World} (h : Nob w w') : Below w.heap.size w w' := ⟨h.os, h.tape, h.output, h.size, fun k hk => h.block k hk (by simp)⟩

/-- What holds at the head of each round: a slice of two meters, nil and one of no counts. -/
structure RelZ (w : World) (bz k : Nat) (wr : World) : Prop where
  le : k ≤ 2
  c0 : wr.cell? ⟨bz + 1, 0, none⟩ = some (.pointer none)
  c1 : wr.cell? ⟨bz + 1, 1, none⟩ = some (.pointer (some ⟨bz, 0, none⟩))
  at_ : MAt wr bz (fun _ => 0) 0
  bel : Below w.heap.size w wr
  lt : bz + 1 < wr.heap.size

theorem RelZ.look {w wr : World} {bz k : Nat} (R : RelZ w bz k wr) (h : k < 2) : ∃ v, wr.cell? ⟨bz + 1, k, none⟩ = some v ∧ NoM wr v := by
  have : k = 0 ∨ k = 1 := by omega
  rcases this with rfl | rfl
  · exact ⟨_, R.c0, .inl rfl⟩
  · exact ⟨_, R.c1, .inr ⟨_, _, rfl, R.at_⟩⟩
theorem RelZ.next {w wr w' : World} {bz k : Nat} (R : RelZ w bz k wr) (h : k < 2) (n : Nob wr w') : RelZ w bz (k + 1) w' where
  le := h
  c0 := n.cell R.c0 (by simp)
  c1 := n.cell R.c1 (by simp)
  at_ := R.at_.grown n (by simp)
  bel := R.bel.grown n R.bel.size (by simp)
  lt := Nat.lt_of_lt_of_le R.lt n.size
theorem RelZ.start {w W : World} (h : Below w.heap.size w W) : RelZ w W.heap.size 0 ((W.alloc (.cells (mcells (fun _ => 0) 0) 52)).alloc (.cells #[.pointer none, .pointer (some ⟨W.heap.size, 0, none⟩)] 24)) where
  le := by omega
  c0 := by rw [World.cell?_alloc_at _ _ _ _ (by simp)]; rfl
  c1 := by rw [World.cell?_alloc_at _ _ _ _ (by simp)]; rfl
  at_ := (mat_new _ _ _).alloc _
  bel := (h.alloc h.size _).alloc (by have := h.size; simp; omega) _
  lt := by simp

set_option maxRecDepth 100000 in
set_option maxHeartbeats 400000 in
theorem walk_none1 (a0 a1 a2 : Int) (w : World) (h : a0 < 1) :
    Calls Try.prog 5 #[.int .i64 a0, .int .i64 a1, .int .u64 a2] w fun e w' => e = .returned (.bool true) ∧ Below w.heap.size w w' := by
  go_enter Try.func5, Try.ntmps5
  go_wp2_with (go_at_call 7; refine (new_none _ _ (.inl h)).mono ?_; rintro e w' ⟨rfl, rfl⟩)
  go_loopw [75] (fun i wr => ∃ k : Nat, i = .int .i64 k ∧ RelZ w w.heap.size k wr) (fun i _ => 2 - (intOf i).toNat)
  case atStart => exact ⟨0, rfl, RelZ.start (Below.refl _ _)⟩
  case round =>
    obtain ⟨k, rfl, R⟩ := hrel
    by_cases hlt : k < 2
    · obtain ⟨v, hc, hv⟩ : ∃ v, wr.cell? ⟨w.heap.size + 1, k, none⟩ = some v ∧ NoM wr v := R.look hlt
      go_wp2_with (first
        | (go_at_call 14; refine (add_no _ _ _ _ _ (by decide) (fun W hg => at_nog _ _ hv _ W hg)).mono ?_; rintro e w1 ⟨rfl, n1⟩; have hv1 := hv.grown n1)
        | (go_at_call 9; refine (swap_no _ _ _ _ _ (by decide) (fun W hg => at_nog _ _ hv1 _ W hg)).mono ?_; rintro e w2 ⟨rfl, n2⟩; have hv2 := hv1.grown n2)
        | (go_at_call 16; refine (raise_no _ _ _ _ _ (by decide) (fun W hg => at_nog _ _ hv2 _ W hg)).mono ?_; rintro e w3 ⟨rfl, n3⟩; have hv3 := hv2.grown n3)
        | (go_at_call 15; refine (get_no _ _ _ 1 (by decide) (at_no _ _ hv3 _)).mono ?_; rintro e w' ⟨rfl, rfl⟩)
        | (go_at_call 8; refine (once_no _ _ _ 1 (by decide) (at_no _ _ hv3 _)).mono ?_; rintro e w' ⟨rfl, rfl⟩)
        | (go_at_call 11; refine (all_no _ _ hv3).mono ?_; rintro e w' ⟨rfl, rfl⟩)
        | (go_at_call 12; refine (sum_no _ _ hv3).mono ?_; rintro e w' ⟨rfl, rfl⟩)
        | (go_at_call 13; refine (len_no _ _ hv3).mono ?_; rintro e w' ⟨rfl, rfl⟩))
      go_roundw
      case rel => exact ⟨k + 1, by go_num, R.next hlt ((n1.trans n2).trans n3)⟩
      case measure => simp [intOf]; omega
    · go_wp2_with (go_at_call 6; refine (lives_true _).mono ?_; rintro e w' ⟨rfl, hn⟩)
      go_ret
      exact ⟨rfl, R.bel.trans ((below_nob hn).mono R.bel.size)⟩

set_option maxRecDepth 100000 in
set_option maxHeartbeats 400000 in
theorem walk_none2 (a0 a1 a2 : Int) (w : World) (h : 16 < a0) :
    Calls Try.prog 5 #[.int .i64 a0, .int .i64 a1, .int .u64 a2] w fun e w' => e = .returned (.bool true) ∧ Below w.heap.size w w' := by
  have h1 : 1 ≤ a0 := by omega
  go_enter Try.func5, Try.ntmps5
  go_wp2_with (go_at_call 7; refine (new_none _ _ (.inr h)).mono ?_; rintro e w' ⟨rfl, rfl⟩)
  go_loopw [75] (fun i wr => ∃ k : Nat, i = .int .i64 k ∧ RelZ w w.heap.size k wr) (fun i _ => 2 - (intOf i).toNat)
  case atStart => exact ⟨0, rfl, RelZ.start (Below.refl _ _)⟩
  case round =>
    obtain ⟨k, rfl, R⟩ := hrel
    by_cases hlt : k < 2
    · obtain ⟨v, hc, hv⟩ : ∃ v, wr.cell? ⟨w.heap.size + 1, k, none⟩ = some v ∧ NoM wr v := R.look hlt
      go_wp2_with (first
        | (go_at_call 14; refine (add_no _ _ _ _ _ (by decide) (fun W hg => at_nog _ _ hv _ W hg)).mono ?_; rintro e w1 ⟨rfl, n1⟩; have hv1 := hv.grown n1)
        | (go_at_call 9; refine (swap_no _ _ _ _ _ (by decide) (fun W hg => at_nog _ _ hv1 _ W hg)).mono ?_; rintro e w2 ⟨rfl, n2⟩; have hv2 := hv1.grown n2)
        | (go_at_call 16; refine (raise_no _ _ _ _ _ (by decide) (fun W hg => at_nog _ _ hv2 _ W hg)).mono ?_; rintro e w3 ⟨rfl, n3⟩; have hv3 := hv2.grown n3)
        | (go_at_call 15; refine (get_no _ _ _ 1 (by decide) (at_no _ _ hv3 _)).mono ?_; rintro e w' ⟨rfl, rfl⟩)
        | (go_at_call 8; refine (once_no _ _ _ 1 (by decide) (at_no _ _ hv3 _)).mono ?_; rintro e w' ⟨rfl, rfl⟩)
        | (go_at_call 11; refine (all_no _ _ hv3).mono ?_; rintro e w' ⟨rfl, rfl⟩)
        | (go_at_call 12; refine (sum_no _ _ hv3).mono ?_; rintro e w' ⟨rfl, rfl⟩)
        | (go_at_call 13; refine (len_no _ _ hv3).mono ?_; rintro e w' ⟨rfl, rfl⟩))
      go_roundw
      case rel => exact ⟨k + 1, by go_num, R.next hlt ((n1.trans n2).trans n3)⟩
      case measure => simp [intOf]; omega
    · go_wp2_with (go_at_call 6; refine (lives_true _).mono ?_; rintro e w' ⟨rfl, hn⟩)
      go_ret
      exact ⟨rfl, R.bel.trans ((below_nob hn).mono R.bel.size)⟩

theorem below_stp {B : Nat} {w w1 w2 : World} {b : Nat} {c : Nat → Int} {n : Int} (h : Below B w w1) (s : Stp w1 b c n w2) (hB : B ≤ w1.heap.size) (hb : B ≤ b) : Below B w w2 :=
  h.grown s.grown hB (fun k e => by cases e; exact hb)

set_option maxRecDepth 100000 in
set_option maxHeartbeats 400000 in
theorem walk_in1 (n k : Nat) (a2 : Int) (w : World) (h1 : (1 : Int) ≤ n) (h2 : (n : Int) ≤ 16) (hk : (k : Int) < n) (h0 : 0 ≤ a2) (hy : a2 ≤ 4611686018427387904) :
    Calls Try.prog 5 #[.int .i64 n, .int .i64 k, .int .u64 a2] w fun e w' => e = .returned (.bool true) ∧ Below w.heap.size w w' := by
  have hy' : 0 + a2 ≤ 4611686018427387904 := by omega
  have hd1 : decide ((k : Int) < 0) = false := by simp
  have hd2 : decide (n ≤ k) = false := by simp; omega
  go_enter Try.func5, Try.ntmps5
  go_wp2_with (first
    | (go_at_call 7; refine (new_some _ _ h1 h2).mono ?_; rintro e w' ⟨rfl, rfl⟩)
    | (go_at_call 14; refine (add_ok _ _ _ _ (mat_new _ _ _) h2 k hk _ h0 (by decide) hy').mono ?_; rintro e wa ⟨rfl, s1⟩))
  have hbel : Below w.heap.size w wa := below_nob (nob_of_stp s1)
  clear s1
  go_loopw [75] (fun i wr => ∃ k : Nat, i = .int .i64 k ∧ RelZ w wa.heap.size k wr) (fun i _ => 2 - (intOf i).toNat)
  case atStart => exact ⟨0, rfl, RelZ.start hbel⟩
  case round =>
    obtain ⟨k, rfl, R⟩ := hrel
    by_cases hlt : k < 2
    · obtain ⟨v, hc, hv⟩ : ∃ v, wr.cell? ⟨wa.heap.size + 1, k, none⟩ = some v ∧ NoM wr v := R.look hlt
      go_wp2_with (first
        | (go_at_call 14; refine (add_no _ _ _ _ _ (by decide) (fun W hg => at_nog _ _ hv _ W hg)).mono ?_; rintro e w1 ⟨rfl, n1⟩; have hv1 := hv.grown n1)
        | (go_at_call 9; refine (swap_no _ _ _ _ _ (by decide) (fun W hg => at_nog _ _ hv1 _ W hg)).mono ?_; rintro e w2 ⟨rfl, n2⟩; have hv2 := hv1.grown n2)
        | (go_at_call 16; refine (raise_no _ _ _ _ _ (by decide) (fun W hg => at_nog _ _ hv2 _ W hg)).mono ?_; rintro e w3 ⟨rfl, n3⟩; have hv3 := hv2.grown n3)
        | (go_at_call 15; refine (get_no _ _ _ 1 (by decide) (at_no _ _ hv3 _)).mono ?_; rintro e w' ⟨rfl, rfl⟩)
        | (go_at_call 8; refine (once_no _ _ _ 1 (by decide) (at_no _ _ hv3 _)).mono ?_; rintro e w' ⟨rfl, rfl⟩)
        | (go_at_call 11; refine (all_no _ _ hv3).mono ?_; rintro e w' ⟨rfl, rfl⟩)
        | (go_at_call 12; refine (sum_no _ _ hv3).mono ?_; rintro e w' ⟨rfl, rfl⟩)
        | (go_at_call 13; refine (len_no _ _ hv3).mono ?_; rintro e w' ⟨rfl, rfl⟩))
      go_roundw
      case rel => exact ⟨k + 1, by go_num, R.next hlt ((n1.trans n2).trans n3)⟩
      case measure => simp [intOf]; omega
    · go_wp2_with (go_at_call 6; refine (lives_true _).mono ?_; rintro e w' ⟨rfl, hn⟩)
      go_ret
      exact ⟨rfl, R.bel.trans ((below_nob hn).mono R.bel.size)⟩

set_option maxRecDepth 100000 in
set_option maxHeartbeats 400000 in
theorem walk_in2 (n k : Nat) (a2 : Int) (w : World) (h1 : (1 : Int) ≤ n) (h2 : (n : Int) ≤ 16) (hk : (k : Int) < n) (h0 : 0 ≤ a2) (hy : 4611686018427387904 < a2) :
    Calls Try.prog 5 #[.int .i64 n, .int .i64 k, .int .u64 a2] w fun e w' => e = .returned (.bool true) ∧ Below w.heap.size w w' := by
  have hy' : 4611686018427387904 < 0 + a2 := by omega
  have hd1 : decide ((k : Int) < 0) = false := by simp
  have hd2 : decide (n ≤ k) = false := by simp; omega
  go_enter Try.func5, Try.ntmps5
  go_wp2_with (first
    | (go_at_call 7; refine (new_some _ _ h1 h2).mono ?_; rintro e w' ⟨rfl, rfl⟩)
    | (go_at_call 14; refine (add_big _ _ _ _ (mat_new _ _ _) h2 k hk _ h0 (by decide) (by decide) hy').mono ?_; rintro e wa ⟨rfl, s1⟩))
  have hbel : Below w.heap.size w wa := below_nob (nob_of_stp s1)
  clear s1
  go_loopw [75] (fun i wr => ∃ k : Nat, i = .int .i64 k ∧ RelZ w wa.heap.size k wr) (fun i _ => 2 - (intOf i).toNat)
  case atStart => exact ⟨0, rfl, RelZ.start hbel⟩
  case round =>
    obtain ⟨k, rfl, R⟩ := hrel
    by_cases hlt : k < 2
    · obtain ⟨v, hc, hv⟩ : ∃ v, wr.cell? ⟨wa.heap.size + 1, k, none⟩ = some v ∧ NoM wr v := R.look hlt
      go_wp2_with (first
        | (go_at_call 14; refine (add_no _ _ _ _ _ (by decide) (fun W hg => at_nog _ _ hv _ W hg)).mono ?_; rintro e w1 ⟨rfl, n1⟩; have hv1 := hv.grown n1)
        | (go_at_call 9; refine (swap_no _ _ _ _ _ (by decide) (fun W hg => at_nog _ _ hv1 _ W hg)).mono ?_; rintro e w2 ⟨rfl, n2⟩; have hv2 := hv1.grown n2)
        | (go_at_call 16; refine (raise_no _ _ _ _ _ (by decide) (fun W hg => at_nog _ _ hv2 _ W hg)).mono ?_; rintro e w3 ⟨rfl, n3⟩; have hv3 := hv2.grown n3)
        | (go_at_call 15; refine (get_no _ _ _ 1 (by decide) (at_no _ _ hv3 _)).mono ?_; rintro e w' ⟨rfl, rfl⟩)
        | (go_at_call 8; refine (once_no _ _ _ 1 (by decide) (at_no _ _ hv3 _)).mono ?_; rintro e w' ⟨rfl, rfl⟩)
        | (go_at_call 11; refine (all_no _ _ hv3).mono ?_; rintro e w' ⟨rfl, rfl⟩)
        | (go_at_call 12; refine (sum_no _ _ hv3).mono ?_; rintro e w' ⟨rfl, rfl⟩)
        | (go_at_call 13; refine (len_no _ _ hv3).mono ?_; rintro e w' ⟨rfl, rfl⟩))
      go_roundw
      case rel => exact ⟨k + 1, by go_num, R.next hlt ((n1.trans n2).trans n3)⟩
      case measure => simp [intOf]; omega
    · go_wp2_with (go_at_call 6; refine (lives_true _).mono ?_; rintro e w' ⟨rfl, hn⟩)
      go_ret
      exact ⟨rfl, R.bel.trans ((below_nob hn).mono R.bel.size)⟩

theorem at_outg (w : World) (b : Nat) (c : Nat → Int) (n : Nat) (h : MAt w b c n) (hn : (1 : Int) ≤ n) (i : Int) (hi : i < 0 ∨ (n : Int) ≤ i) (W : World) (hg : w.grownBy W none) :
    Calls Try.prog 17 #[.pointer (some ⟨b, 0, none⟩), .int .i64 i] W fun e w' => e = .returned (.tuple #[.pointer none, .int .i64 2]) ∧ W = w' :=
  at_out W b c n (h.grown hg (by simp)) hn i hi

set_option maxRecDepth 100000 in
set_option maxHeartbeats 400000 in
theorem walk_out1 (n : Nat) (i a2 : Int) (w : World) (h1 : (1 : Int) ≤ n) (h2 : (n : Int) ≤ 16) (h : i < 0) :
    Calls Try.prog 5 #[.int .i64 n, .int .i64 i, .int .u64 a2] w fun e w' => e = .returned (.bool true) ∧ Below w.heap.size w w' := by
  go_enter Try.func5, Try.ntmps5
  go_wp2_with (first
    | (go_at_call 7; refine (new_some _ _ h1 h2).mono ?_; rintro e w' ⟨rfl, rfl⟩; have hM := mat_new w (fun _ => 0) n)
    | (go_at_call 14; refine (add_no _ _ _ _ _ (by decide) (fun W hg => at_outg _ _ _ _ hM h1 i (.inl h) W hg)).mono ?_; rintro e wa ⟨rfl, na⟩; have hM1 := hM.grown na (by simp))
    | (go_at_call 15; refine (get_no _ _ _ 2 (by decide) (at_out _ _ _ _ hM1 h1 i (.inl h))).mono ?_; rintro e w' ⟨rfl, rfl⟩)
    | (go_at_call 8; refine (once_no _ _ _ 2 (by decide) (at_out _ _ _ _ hM1 h1 i (.inl h))).mono ?_; rintro e w' ⟨rfl, rfl⟩)
    | (go_at_call 16; refine (raise_no _ _ _ _ _ (by decide) (fun W hg => at_outg _ _ _ _ hM1 h1 i (.inl h) W hg)).mono ?_; rintro e wb ⟨rfl, nb⟩))
  have hbel : Below w.heap.size w wb := (((Below.refl _ _).alloc (Nat.le_refl _) _).grown na (by simp) (by simp)).grown nb (by have := na.size; simp at this; omega) (by simp)
  clear na nb hM hM1
  go_loopw [75] (fun i wr => ∃ k : Nat, i = .int .i64 k ∧ RelZ w wb.heap.size k wr) (fun i _ => 2 - (intOf i).toNat)
  case atStart => exact ⟨0, rfl, RelZ.start hbel⟩
  case round =>
    obtain ⟨k, rfl, R⟩ := hrel
    by_cases hlt : k < 2
    · obtain ⟨v, hc, hv⟩ : ∃ v, wr.cell? ⟨wb.heap.size + 1, k, none⟩ = some v ∧ NoM wr v := R.look hlt
      go_wp2_with (first
        | (go_at_call 14; refine (add_no _ _ _ _ _ (by decide) (fun W hg => at_nog _ _ hv _ W hg)).mono ?_; rintro e w1 ⟨rfl, n1⟩; have hv1 := hv.grown n1)
        | (go_at_call 9; refine (swap_no _ _ _ _ _ (by decide) (fun W hg => at_nog _ _ hv1 _ W hg)).mono ?_; rintro e w2 ⟨rfl, n2⟩; have hv2 := hv1.grown n2)
        | (go_at_call 16; refine (raise_no _ _ _ _ _ (by decide) (fun W hg => at_nog _ _ hv2 _ W hg)).mono ?_; rintro e w3 ⟨rfl, n3⟩; have hv3 := hv2.grown n3)
        | (go_at_call 15; refine (get_no _ _ _ 1 (by decide) (at_no _ _ hv3 _)).mono ?_; rintro e w' ⟨rfl, rfl⟩)
        | (go_at_call 8; refine (once_no _ _ _ 1 (by decide) (at_no _ _ hv3 _)).mono ?_; rintro e w' ⟨rfl, rfl⟩)
        | (go_at_call 11; refine (all_no _ _ hv3).mono ?_; rintro e w' ⟨rfl, rfl⟩)
        | (go_at_call 12; refine (sum_no _ _ hv3).mono ?_; rintro e w' ⟨rfl, rfl⟩)
        | (go_at_call 13; refine (len_no _ _ hv3).mono ?_; rintro e w' ⟨rfl, rfl⟩))
      go_roundw
      case rel => exact ⟨k + 1, by go_num, R.next hlt ((n1.trans n2).trans n3)⟩
      case measure => simp [intOf]; omega
    · go_wp2_with (go_at_call 6; refine (lives_true _).mono ?_; rintro e w' ⟨rfl, hn⟩)
      go_ret
      exact ⟨rfl, R.bel.trans ((below_nob hn).mono R.bel.size)⟩

set_option maxRecDepth 100000 in
set_option maxHeartbeats 400000 in
theorem walk_out2 (n : Nat) (i a2 : Int) (w : World) (h1 : (1 : Int) ≤ n) (h2 : (n : Int) ≤ 16) (h : (n : Int) ≤ i) :
    Calls Try.prog 5 #[.int .i64 n, .int .i64 i, .int .u64 a2] w fun e w' => e = .returned (.bool true) ∧ Below w.heap.size w w' := by
  have hi0 : ¬ i < 0 := by omega
  go_enter Try.func5, Try.ntmps5
  go_wp2_with (first
    | (go_at_call 7; refine (new_some _ _ h1 h2).mono ?_; rintro e w' ⟨rfl, rfl⟩; have hM := mat_new w (fun _ => 0) n)
    | (go_at_call 14; refine (add_no _ _ _ _ _ (by decide) (fun W hg => at_outg _ _ _ _ hM h1 i (.inr h) W hg)).mono ?_; rintro e wa ⟨rfl, na⟩; have hM1 := hM.grown na (by simp))
    | (go_at_call 15; refine (get_no _ _ _ 2 (by decide) (at_out _ _ _ _ hM1 h1 i (.inr h))).mono ?_; rintro e w' ⟨rfl, rfl⟩)
    | (go_at_call 8; refine (once_no _ _ _ 2 (by decide) (at_out _ _ _ _ hM1 h1 i (.inr h))).mono ?_; rintro e w' ⟨rfl, rfl⟩)
    | (go_at_call 16; refine (raise_no _ _ _ _ _ (by decide) (fun W hg => at_outg _ _ _ _ hM1 h1 i (.inr h) W hg)).mono ?_; rintro e wb ⟨rfl, nb⟩))
  have hbel : Below w.heap.size w wb := (((Below.refl _ _).alloc (Nat.le_refl _) _).grown na (by simp) (by simp)).grown nb (by have := na.size; simp at this; omega) (by simp)
  clear na nb hM hM1
  go_loopw [75] (fun i wr => ∃ k : Nat, i = .int .i64 k ∧ RelZ w wb.heap.size k wr) (fun i _ => 2 - (intOf i).toNat)
  case atStart => exact ⟨0, rfl, RelZ.start hbel⟩
  case round =>
    obtain ⟨k, rfl, R⟩ := hrel
    by_cases hlt : k < 2
    · obtain ⟨v, hc, hv⟩ : ∃ v, wr.cell? ⟨wb.heap.size + 1, k, none⟩ = some v ∧ NoM wr v := R.look hlt
      go_wp2_with (first
        | (go_at_call 14; refine (add_no _ _ _ _ _ (by decide) (fun W hg => at_nog _ _ hv _ W hg)).mono ?_; rintro e w1 ⟨rfl, n1⟩; have hv1 := hv.grown n1)
        | (go_at_call 9; refine (swap_no _ _ _ _ _ (by decide) (fun W hg => at_nog _ _ hv1 _ W hg)).mono ?_; rintro e w2 ⟨rfl, n2⟩; have hv2 := hv1.grown n2)
        | (go_at_call 16; refine (raise_no _ _ _ _ _ (by decide) (fun W hg => at_nog _ _ hv2 _ W hg)).mono ?_; rintro e w3 ⟨rfl, n3⟩; have hv3 := hv2.grown n3)
        | (go_at_call 15; refine (get_no _ _ _ 1 (by decide) (at_no _ _ hv3 _)).mono ?_; rintro e w' ⟨rfl, rfl⟩)
        | (go_at_call 8; refine (once_no _ _ _ 1 (by decide) (at_no _ _ hv3 _)).mono ?_; rintro e w' ⟨rfl, rfl⟩)
        | (go_at_call 11; refine (all_no _ _ hv3).mono ?_; rintro e w' ⟨rfl, rfl⟩)
        | (go_at_call 12; refine (sum_no _ _ hv3).mono ?_; rintro e w' ⟨rfl, rfl⟩)
        | (go_at_call 13; refine (len_no _ _ hv3).mono ?_; rintro e w' ⟨rfl, rfl⟩))
      go_roundw
      case rel => exact ⟨k + 1, by go_num, R.next hlt ((n1.trans n2).trans n3)⟩
      case measure => simp [intOf]; omega
    · go_wp2_with (go_at_call 6; refine (lives_true _).mono ?_; rintro e w' ⟨rfl, hn⟩)
      go_ret
      exact ⟨rfl, R.bel.trans ((below_nob hn).mono R.bel.size)⟩

theorem walk (a0 : Int) (a1 : Int) (a2 : Int) (w0 : (Lit.int .i64 a0).wf = true) (w1 : (Lit.int .i64 a1).wf = true) (w2 : (Lit.int .u64 a2).wf = true) (w : World) :
    Calls Try.prog 5 #[.int .i64 a0, .int .i64 a1, .int .u64 a2] w fun e w' => e = .returned (.bool true) ∧ Below w.heap.size w w' := by
  have h2 : 0 ≤ a2 := by
    simp only [Lit.wf, Bool.and_eq_true, decide_eq_true_eq] at w2
    exact w2.1
  by_cases ha : a0 < 1
  · exact walk_none1 a0 a1 a2 w ha
  by_cases hb : 16 < a0
  · exact walk_none2 a0 a1 a2 w hb
  obtain ⟨n, rfl⟩ : ∃ n : Nat, a0 = (n : Int) := ⟨a0.toNat, by omega⟩
  by_cases hc : a1 < 0
  · exact walk_out1 n a1 a2 w (by omega) (by omega) hc
  by_cases hd : (n : Int) ≤ a1
  · exact walk_out2 n a1 a2 w (by omega) (by omega) hd
  obtain ⟨k, rfl⟩ : ∃ k : Nat, a1 = (k : Int) := ⟨a1.toNat, by omega⟩
  by_cases he : a2 ≤ 4611686018427387904
  · exact walk_in1 n k a2 w (by omega) (by omega) (by omega) h2 he
  · exact walk_in2 n k a2 w (by omega) (by omega) (by omega) h2 (by omega)

/-! ### The row's step -/
set_option maxRecDepth 100000 in
theorem lifted (os : Os) (started : os.Started) (H : Type) (enc : TypeId × Value → H) :
    ReturnsInHanded {} Try.checked os 5 .any (Rows.meterSizesSpec.pre6 enc Try.prog Try.f5 Rows.meterSizesRow.domain false) (Rows.meterSizesSpec.post enc Try.prog Try.f5 false true false false) := by
  refine returnsInHanded_of_change (C := Try.checked) own started (by kernel_rfl) Try.func5
    (ChangeSpec.witness6 (enc := enc) (C := Try.checked) false ⟨#[], #[.int .i64 0, .int .i64 0, .int .u64 0], []⟩ 8 (by kernel_rfl) (by kernel_rfl) (by kernel_rfl) (by kernel_rfl)) ?_
  intro W base args ds gs before hval0 hW hcnd _
  have hval : ∀ (j : Nat) t v, Try.f5.params[j]? = some t → args[j]? = some v → Value.okWide Try.prog W .any base t v := hval0
  have hW' := hW
  obtain ⟨p, q, hA0, hV, rfl, hfz, hnd⟩ := hW
  have hA : DataW.TrodAll enc Try.prog W 0 (fun _ => true) true Try.f5.params.toList args.toList ds p := hA0
  rw [Try.params5] at hA hval
  obtain ⟨v0, vs0, d0, ds0, p0, q0, hargs, rfl, rfl, h0, r0⟩ := trodAll_cons hA
  obtain ⟨v1, vs1, d1, ds1, p1, q1, rfl, rfl, rfl, h1, r1⟩ := trodAll_cons r0
  obtain ⟨v2, vs2, d2, ds2, p2, q2, rfl, rfl, rfl, h2, r2⟩ := trodAll_cons r1
  obtain ⟨rfl, rfl, rfl⟩ := trodAll_nil r2
  obtain rfl : args = #[v0, v1, v2] := by cases args; simp_all
  obtain ⟨rfl, rfl⟩ := trodVars_none hV
  obtain ⟨a0, rfl, rfl, rfl, w0⟩ := open_int Try.underlying3 (hval 0 3 v0 rfl rfl) h0
  obtain ⟨a1, rfl, rfl, rfl, w1⟩ := open_int Try.underlying3 (hval 1 3 v1 rfl rfl) h1
  obtain ⟨a2, rfl, rfl, rfl, w2⟩ := open_int Try.underlying28 (hval 2 28 v2 rfl rfl) h2
  clear hA0 hval0
  simp only [List.append_nil] at hW'
  refine (walk a0 a1 a2 w0 w1 w2 W).mono fun e W' ⟨he, hg⟩ => ?_
  subst he
  exact ⟨_, rfl, _, _, _, [], [], [], hW', trodAll_mk1 (shut_bool Try.underlying4 _), (trodAll_cons_mk (shut_int Try.underlying3 w0) (trodAll_cons_mk (shut_int Try.underlying3 w1) (trodAll_cons_mk (shut_int Try.underlying28 w2) trodAll_mk0))), rfl, hg.frame _, fun h => by cases h⟩

theorem over : Rows.meterSizesRow.holds Try.pinned (OpenSpec.ofChange Rows.meterSizesSpec) :=
  OpenClaim.holds_of_wide 5 Try.f5 rfl rfl rfl rfl rfl rfl rfl ⟨rfl, rfl, rfl, rfl, rfl⟩ rfl rfl rfl rfl rfl (by kernel_rfl) Try.func5 (by kernel_rfl)
    (of_decide_eq_true (by kernel_rfl)) (by unfold Func.isWrapper; first | (rw [if_pos (by decide +kernel)]; kernel_rfl) | (rw [if_neg (by decide +kernel)]; exact ⟨rfl, rfl⟩))
    (fun os started H enc _ => lifted os started H enc)

/-- The statement. -/
theorem proved : Rows.MeterSizesSaid :=
  over
#print axioms proved
end Go.Proofs.Ytimicedinjacaaa.meterSizes
