/-
  Contracts of meter.New, Once, Swap, Add, Raise, Get: what each does to the block of a meter.
-/
import Derived.Test.YtimicedinjacaaaBase
namespace Go.Proofs.Ytimicedinjacaaa
open Go.RowKit

theorem new_none (w : World) (n : Int) (h : n < 1 ∨ 16 < n) : Calls Try.prog 7 #[.int .i64 n] w fun e w' => e = .returned (.pointer none) ∧ w = w' := by
  rcases h with h | h
  · go_enter Try.func7, Try.ntmps7
    go_wp2
    go_ret
    exact ⟨rfl, rfl⟩
  · have h1 : ¬ n < 1 := by omega
    go_enter Try.func7, Try.ntmps7
    go_wp2
    go_ret
    exact ⟨rfl, rfl⟩

theorem new_some (w : World) (n : Int) (h1 : 1 ≤ n) (h2 : n ≤ 16) :
    Calls Try.prog 7 #[.int .i64 n] w fun e w' => e = .returned (.pointer (some ⟨w.heap.size, 0, none⟩)) ∧ w.alloc (.cells (mcells (fun _ => 0) n) 52) = w' := by
  go_enter Try.func7, Try.ntmps7
  go_wp2
  go_ret
  exact ⟨rfl, rfl⟩

theorem cas_hit (w : World) (b k : Nat) (x y : Int) (hc : w.cell? ⟨b, k, none⟩ = some (.int .u64 x)) (hf : w.frozen? ⟨b, k, none⟩ = false) :
    Calls Try.prog 18 #[.pointer (some ⟨b, k, none⟩), .int .u64 x, .int .u64 y] w fun e w' => e = .returned (.bool true) ∧ w.setCell ⟨b, k, none⟩ (.int .u64 y) = w' := by
  have hcas := run_call_cas_hit (P := Try.prog) Try.func30 (by kernel_rfl) (by kernel_rfl) (by kernel_rfl) .u64 (by kernel_rfl) (x := x) (y := y) hc hf
  go_enter Try.func18, Try.ntmps18
  go_wp2
  go_ret
  exact ⟨rfl, rfl⟩

theorem cas_miss (w : World) (b k : Nat) (x o y : Int) (hc : w.cell? ⟨b, k, none⟩ = some (.int .u64 x)) (hf : w.frozen? ⟨b, k, none⟩ = false) (hne : ¬ x = o) :
    Calls Try.prog 18 #[.pointer (some ⟨b, k, none⟩), .int .u64 o, .int .u64 y] w fun e w' => e = .returned (.bool false) ∧ w = w' := by
  have hcas := run_call_cas_miss (P := Try.prog) Try.func30 (by kernel_rfl) (by kernel_rfl) (by kernel_rfl) .u64 (by kernel_rfl) (x := x) (o := o) (y := y) hc hf hne
  go_enter Try.func18, Try.ntmps18
  go_wp2
  go_ret
  exact ⟨rfl, rfl⟩

theorem load_any (w : World) (b k : Nat) (x : Int) (hc : w.cell? ⟨b, k, none⟩ = some (.int .u64 x)) :
    Calls Try.prog 27 #[.pointer (some ⟨b, k, none⟩)] w fun e w' => e = .returned (.int .u64 x) ∧ w = w' := by
  have hl := run_call_load (P := Try.prog) Try.func33 (by kernel_rfl) (by kernel_rfl) (by kernel_rfl) .u64 (by kernel_rfl) (x := x) hc
  go_enter Try.func27, Try.ntmps27
  go_wp2
  go_ret
  exact ⟨rfl, rfl⟩

theorem room_ok (w : World) (x : Int) (h : x ≤ 4611686018427387904) : Calls Try.prog 21 #[.int .u64 x] w fun e w' => e = .returned (.tuple #[.int .u64 x, .int .i64 0]) ∧ w = w' := by
  go_enter Try.func21, Try.ntmps21
  go_wp2
  go_ret2
  exact ⟨rfl, rfl⟩

theorem room_big (w : World) (x : Int) (h : 4611686018427387904 < x) : Calls Try.prog 21 #[.int .u64 x] w fun e w' => e = .returned (.tuple #[.int .u64 0, .int .i64 10]) ∧ w = w' := by
  go_enter Try.func21, Try.ntmps21
  go_wp2
  go_ret2
  exact ⟨rfl, rfl⟩

/-- turn, where the count is there and 'to' tells a number. -/
theorem turn_ok (w : World) (b : Nat) (c : Nat → Int) (n : Int) (h : MAt w b c n) (hn : n ≤ 16) (k : Nat) (hk : (k : Int) < n) (g : FuncId) (p : Value) (r : Int)
    (hgf : ∀ (args : Array Value) (W : World), (callFunc g args).run Try.prog W = .ok (.enter g args) W)
    (hg : Calls Try.prog g #[.int .u64 (c k), p] w fun e w' => e = .returned (.tuple #[.int .u64 r, .int .i64 0]) ∧ w = w') :
    Calls Try.prog 19 #[.pointer (some ⟨b, 0, none⟩), .int .i64 k, .func (.func g) #[] #[p]] w fun e w' =>
      e = .returned (.tuple #[.int .u64 (c k), .int .u64 r, .int .i64 0]) ∧ w.setCell ⟨b, k, none⟩ (.int .u64 r) = w' := by
  have hc := h.cell k (by omega)
  have hf := h.free k
  have HG := Lib.hid hg
  clear hg
  go_enter Try.func19, Try.ntmps19
  go_wp2
  go_step3
  go_wp2_with (first | (go_at_call 17; refine (at_in _ _ _ _ h hn k hk).mono ?_; rintro e w' ⟨rfl, rfl⟩))
  go_step3
  go_wp2_with (first | (go_at_call 27; refine (load_any _ _ _ _ hc).mono ?_; rintro e w' ⟨rfl, rfl⟩) | (go_at_call 18; refine (cas_hit _ _ _ _ _ hc hf).mono ?_; rintro e w' ⟨rfl, rfl⟩) | (refine HG.out.mono ?_; rintro e w' ⟨rfl, rfl⟩))
  rw [Exit.noGoto_ret]
  go_wp2
  go_ret3
  exact ⟨rfl, rfl⟩

/-- turn, where 'to' tells an error. -/
theorem turn_err (w : World) (b : Nat) (c : Nat → Int) (n : Int) (h : MAt w b c n) (hn : n ≤ 16) (k : Nat) (hk : (k : Int) < n) (g : FuncId) (p : Value) (r err : Int) (herr : ¬ err = 0)
    (hgf : ∀ (args : Array Value) (W : World), (callFunc g args).run Try.prog W = .ok (.enter g args) W)
    (hg : Calls Try.prog g #[.int .u64 (c k), p] w fun e w' => e = .returned (.tuple #[.int .u64 r, .int .i64 err]) ∧ w = w') :
    Calls Try.prog 19 #[.pointer (some ⟨b, 0, none⟩), .int .i64 k, .func (.func g) #[] #[p]] w fun e w' =>
      e = .returned (.tuple #[.int .u64 0, .int .u64 0, .int .i64 err]) ∧ w = w' := by
  have hc := h.cell k (by omega)
  have HG := Lib.hid hg
  clear hg
  go_enter Try.func19, Try.ntmps19
  go_wp2
  go_step3
  go_wp2_with (first | (go_at_call 17; refine (at_in _ _ _ _ h hn k hk).mono ?_; rintro e w' ⟨rfl, rfl⟩))
  go_step3
  go_wp2_with (first | (go_at_call 27; refine (load_any _ _ _ _ hc).mono ?_; rintro e w' ⟨rfl, rfl⟩) | (refine HG.out.mono ?_; rintro e w' ⟨rfl, rfl⟩))
  rw [Exit.noGoto_ret]
  go_wp2
  go_ret3
  exact ⟨rfl, rfl⟩

/-- turn, where there is no such count. -/
theorem turn_no (w : World) (m i f : Value) (err : Int) (herr : ¬ err = 0)
    (hg : Calls Try.prog 17 #[m, i] w fun e w' => e = .returned (.tuple #[.pointer none, .int .i64 err]) ∧ w = w') :
    Calls Try.prog 19 #[m, i, f] w fun e w' => e = .returned (.tuple #[.int .u64 0, .int .u64 0, .int .i64 err]) ∧ w = w' := by
  have HG := Lib.hid hg
  clear hg
  go_enter Try.func19, Try.ntmps19
  go_wp2
  go_step3
  go_wp2_with (first | (go_at_call 17; refine HG.out.mono ?_; rintro e w' ⟨rfl, rfl⟩))
  rw [Exit.noGoto_ret]
  go_wp2
  go_ret3
  exact ⟨rfl, rfl⟩

end Go.Proofs.Ytimicedinjacaaa
