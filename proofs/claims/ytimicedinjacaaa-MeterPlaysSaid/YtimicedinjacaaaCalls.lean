/-
  Contracts of the methods Once, Swap, Add, Raise, Get of a meter, and of the chapter's example.
-/
import Derived.Test.YtimicedinjacaaaOps
namespace Go.Proofs.Ytimicedinjacaaa
open Go.RowKit

/-- The greatest count. -/
def Mst : Int := 4611686018427387904

/-- w' is w, but for the meter in block b, which has the counts c, and for new blocks. -/
structure Stp (w : World) (b : Nat) (c : Nat → Int) (n : Int) (w' : World) : Prop where
  at_ : MAt w' b c n
  grown : w.grownBy w' (some b)

theorem stp_refl {w : World} {b : Nat} {c : Nat → Int} {n : Int} (h : MAt w b c n) : Stp w b c n w := ⟨h, World.grownBy.refl _ _⟩
theorem Stp.trans {w w1 w2 : World} {b : Nat} {c c' : Nat → Int} {n : Int} (s : Stp w b c n w1) (t : Stp w1 b c' n w2) : Stp w b c' n w2 :=
  ⟨t.at_, ⟨t.grown.os.trans s.grown.os, t.grown.tape.trans s.grown.tape, t.grown.output.trans s.grown.output, Nat.le_trans s.grown.size t.grown.size,
    fun k hk hne => (t.grown.block k (Nat.lt_of_lt_of_le hk s.grown.size) hne).trans (s.grown.block k hk hne)⟩⟩
theorem Stp.alloc {w w1 : World} {b : Nat} {c : Nat → Int} {n : Int} (s : Stp w b c n w1) (o : Obj) : Stp w b c n (w1.alloc o) :=
  s.trans ⟨s.at_.alloc o, World.grownBy_alloc _ _ _⟩
theorem Stp.set {w w1 : World} {b : Nat} {c : Nat → Int} {n : Int} (s : Stp w b c n w1) (k : Nat) (hk : k < 16) (v : Int) : Stp w b (upd c k v) n (w1.setCell ⟨b, k, none⟩ (.int .u64 v)) :=
  s.trans ⟨s.at_.set k hk v, ⟨rfl, rfl, rfl, by simp [World.setCell], fun j _ hne => Below.heap_setCell _ _ _ _ (fun e => hne (by rw [e]))⟩⟩

theorem callF (f : FuncId) (fn : Func) (hf : Try.prog.funcs[f]? = some fn) (hn : (fn.name == "runtime.NumGoroutine") = false) (hb : fn.body.isNone = false) :
    ∀ (args : Array Value) (W : World), (callFunc f args).run Try.prog W = .ok (.enter f args) W := fun args W => by
  have hn' : ¬ fn.name = "runtime.NumGoroutine" := by simpa using hn
  have hb' : ¬ fn.body = none := fun e => by rw [e] at hb; simp at hb
  simp [callFunc, hf, hn', hb']

theorem call20 (args : Array Value) (W : World) : (callFunc 20 args).run Try.prog W = .ok (.enter 20 args) W := callF 20 _ Try.func20 (by kernel_rfl) (by kernel_rfl) args W
theorem call28 (args : Array Value) (W : World) : (callFunc 28 args).run Try.prog W = .ok (.enter 28 args) W := callF 28 _ Try.func28 (by kernel_rfl) (by kernel_rfl) args W
theorem call29 (args : Array Value) (W : World) : (callFunc 29 args).run Try.prog W = .ok (.enter 29 args) W := callF 29 _ Try.func29 (by kernel_rfl) (by kernel_rfl) args W

section
variable (w : World) (b : Nat) (c : Nat → Int) (n : Int)

theorem once_hit (h : MAt w b c n) (hn : n ≤ 16) (k : Nat) (hk : (k : Int) < n) (hz : c k = 0) :
    Calls Try.prog 8 #[.pointer (some ⟨b, 0, none⟩), .int .i64 k] w fun e w' => e = .returned (.bool true) ∧ Stp w b (upd c k 1) n w' := by
  have hc := h.cell k (by omega)
  rw [hz] at hc
  have hf := h.free k
  clear hz
  go_enter Try.func8, Try.ntmps8
  go_wp2_with (first | (go_at_call 17; refine (at_in _ _ _ _ h hn k hk).mono ?_; rintro e w' ⟨rfl, rfl⟩) | (go_at_call 18; refine (cas_hit _ _ _ _ _ hc hf).mono ?_; rintro e w' ⟨rfl, rfl⟩))
  go_ret
  exact ⟨rfl, (stp_refl h).set _ (by omega) _⟩

theorem once_miss (h : MAt w b c n) (hn : n ≤ 16) (k : Nat) (hk : (k : Int) < n) (hz : ¬ c k = 0) :
    Calls Try.prog 8 #[.pointer (some ⟨b, 0, none⟩), .int .i64 k] w fun e w' => e = .returned (.bool false) ∧ w = w' := by
  have hc := h.cell k (by omega)
  have hf := h.free k
  go_enter Try.func8, Try.ntmps8
  go_wp2_with (first | (go_at_call 17; refine (at_in _ _ _ _ h hn k hk).mono ?_; rintro e w' ⟨rfl, rfl⟩) | (go_at_call 18; refine (cas_miss _ _ _ _ _ _ hc hf hz).mono ?_; rintro e w' ⟨rfl, rfl⟩))
  go_ret
  exact ⟨rfl, rfl⟩

theorem once_no (m i : Value) (err : Int) (herr : ¬ err = 0)
    (hg : Calls Try.prog 17 #[m, i] w fun e w' => e = .returned (.tuple #[.pointer none, .int .i64 err]) ∧ w = w') :
    Calls Try.prog 8 #[m, i] w fun e w' => e = .returned (.bool false) ∧ w = w' := by
  have HG := Lib.hid hg
  clear hg
  go_enter Try.func8, Try.ntmps8
  go_wp2_with (go_at_call 17; refine HG.out.mono ?_; rintro e w' ⟨rfl, rfl⟩)
  go_ret
  exact ⟨rfl, rfl⟩

theorem get_in (h : MAt w b c n) (hn : n ≤ 16) (k : Nat) (hk : (k : Int) < n) :
    Calls Try.prog 15 #[.pointer (some ⟨b, 0, none⟩), .int .i64 k] w fun e w' => e = .returned (.int .u64 (c k)) ∧ w = w' := by
  have hc := h.cell k (by omega)
  go_enter Try.func15, Try.ntmps15
  go_wp2_with (first | (go_at_call 17; refine (at_in _ _ _ _ h hn k hk).mono ?_; rintro e w' ⟨rfl, rfl⟩) | (go_at_call 27; refine (load_any _ _ _ _ hc).mono ?_; rintro e w' ⟨rfl, rfl⟩))
  go_ret
  exact ⟨rfl, rfl⟩

theorem get_no (m i : Value) (err : Int) (herr : ¬ err = 0)
    (hg : Calls Try.prog 17 #[m, i] w fun e w' => e = .returned (.tuple #[.pointer none, .int .i64 err]) ∧ w = w') :
    Calls Try.prog 15 #[m, i] w fun e w' => e = .returned (.int .u64 0) ∧ w = w' := by
  have HG := Lib.hid hg
  clear hg
  go_enter Try.func15, Try.ntmps15
  go_wp2_with (go_at_call 17; refine HG.out.mono ?_; rintro e w' ⟨rfl, rfl⟩)
  go_ret
  exact ⟨rfl, rfl⟩

theorem swapF_ok (x : Value) (p : Addr) (y : Int) (hc : w.cell? p = some (.int .u64 y)) (h : y ≤ 4611686018427387904) :
    Calls Try.prog 20 #[x, .pointer (some p)] w fun e w' => e = .returned (.tuple #[.int .u64 y, .int .i64 0]) ∧ w = w' := by
  go_enter Try.func20, Try.ntmps20
  go_wp2_with (go_at_call 21; refine (room_ok _ _ h).mono ?_; rintro e w' ⟨rfl, rfl⟩)
  go_ret2
  exact ⟨rfl, rfl⟩
theorem swapF_big (x : Value) (p : Addr) (y : Int) (hc : w.cell? p = some (.int .u64 y)) (h : 4611686018427387904 < y) :
    Calls Try.prog 20 #[x, .pointer (some p)] w fun e w' => e = .returned (.tuple #[.int .u64 0, .int .i64 10]) ∧ w = w' := by
  go_enter Try.func20, Try.ntmps20
  go_wp2_with (go_at_call 21; refine (room_big _ _ h).mono ?_; rintro e w' ⟨rfl, rfl⟩)
  go_ret2
  exact ⟨rfl, rfl⟩
theorem addF_big (x : Int) (p : Addr) (y : Int) (hc : w.cell? p = some (.int .u64 y)) (h : 4611686018427387904 < y) :
    Calls Try.prog 28 #[.int .u64 x, .pointer (some p)] w fun e w' => e = .returned (.tuple #[.int .u64 0, .int .i64 10]) ∧ w = w' := by
  go_enter Try.func28, Try.ntmps28
  go_wp2
  go_ret2
  exact ⟨rfl, rfl⟩
theorem addF_over (x : Int) (p : Addr) (y : Int) (hc : w.cell? p = some (.int .u64 y)) (h : y ≤ 4611686018427387904) (hy : 0 ≤ y) (hx : 0 ≤ x) (hx2 : x ≤ 4611686018427387904) (hs : 4611686018427387904 < x + y) :
    Calls Try.prog 28 #[.int .u64 x, .pointer (some p)] w fun e w' => e = .returned (.tuple #[.int .u64 0, .int .i64 10]) ∧ w = w' := by
  go_enter Try.func28, Try.ntmps28
  go_wp2_with (go_at_call 21; refine (room_big _ _ hs).mono ?_; rintro e w' ⟨rfl, rfl⟩)
  go_ret2
  exact ⟨rfl, rfl⟩
theorem addF_ok (x : Int) (p : Addr) (y : Int) (hc : w.cell? p = some (.int .u64 y)) (hy : 0 ≤ y) (hx : 0 ≤ x) (hs : x + y ≤ 4611686018427387904) :
    Calls Try.prog 28 #[.int .u64 x, .pointer (some p)] w fun e w' => e = .returned (.tuple #[.int .u64 (x + y), .int .i64 0]) ∧ w = w' := by
  go_enter Try.func28, Try.ntmps28
  go_wp2_with (go_at_call 21; refine (room_ok _ _ hs).mono ?_; rintro e w' ⟨rfl, rfl⟩)
  go_ret2
  exact ⟨rfl, rfl⟩
theorem raiseF_big (x : Int) (p : Addr) (y : Int) (hc : w.cell? p = some (.int .u64 y)) (h : 4611686018427387904 < y) (hx : 0 ≤ x) :
    Calls Try.prog 29 #[.int .u64 x, .pointer (some p)] w fun e w' => e = .returned (.tuple #[.int .u64 x, .int .i64 10]) ∧ w = w' := by
  go_enter Try.func29, Try.ntmps29
  go_wp2_with (go_at_call 21; refine (room_big _ _ h).mono ?_; rintro e w' ⟨rfl, rfl⟩)
  all_goals go_ret2
  · exact ⟨by simp, rfl⟩
  · exact ⟨by simp; omega, rfl⟩
theorem raiseF_ok (x : Int) (p : Addr) (y : Int) (hc : w.cell? p = some (.int .u64 y)) (h : y ≤ 4611686018427387904) :
    Calls Try.prog 29 #[.int .u64 x, .pointer (some p)] w fun e w' => e = .returned (.tuple #[.int .u64 (max y x), .int .i64 0]) ∧ w = w' := by
  go_enter Try.func29, Try.ntmps29
  go_wp2_with (go_at_call 21; refine (room_ok _ _ h).mono ?_; rintro e w' ⟨rfl, rfl⟩)
  all_goals go_ret2
  · exact ⟨by simp [Int.max_def]; omega, rfl⟩
  · exact ⟨by simp [Int.max_def]; omega, rfl⟩

/-! ### The methods that turn a count -/

theorem swap_ok (h : MAt w b c n) (hn : n ≤ 16) (k : Nat) (hk : (k : Int) < n) (y : Int) (hy : y ≤ 4611686018427387904) :
    Calls Try.prog 9 #[.pointer (some ⟨b, 0, none⟩), .int .i64 k, .int .u64 y] w fun e w' => e = .returned (.tuple #[.int .u64 (c k), .int .i64 0]) ∧ Stp w b (upd c k y) n w' := by
  go_enter Try.func9, Try.ntmps9
  go_wp2_with (go_at_call 19; refine (turn_ok _ _ _ _ (h.alloc _) hn k hk 20 _ _ call20 (swapF_ok _ _ _ y (by simp) hy)).mono ?_; rintro e w' ⟨rfl, rfl⟩)
  go_ret2
  exact ⟨rfl, ((stp_refl h).alloc _).set _ (by omega) _⟩

theorem swap_big (h : MAt w b c n) (hn : n ≤ 16) (k : Nat) (hk : (k : Int) < n) (y : Int) (hy : 4611686018427387904 < y) :
    Calls Try.prog 9 #[.pointer (some ⟨b, 0, none⟩), .int .i64 k, .int .u64 y] w fun e w' => e = .returned (.tuple #[.int .u64 0, .int .i64 10]) ∧ Stp w b c n w' := by
  go_enter Try.func9, Try.ntmps9
  go_wp2_with (go_at_call 19; refine (turn_err _ _ _ _ (h.alloc _) hn k hk 20 _ _ _ (by decide) call20 (swapF_big _ _ _ y (by simp) hy)).mono ?_; rintro e w' ⟨rfl, rfl⟩)
  go_ret2
  exact ⟨rfl, (stp_refl h).alloc _⟩

theorem add_ok (h : MAt w b c n) (hn : n ≤ 16) (k : Nat) (hk : (k : Int) < n) (y : Int) (hy0 : 0 ≤ y) (hc0 : 0 ≤ c k) (hy : c k + y ≤ 4611686018427387904) :
    Calls Try.prog 14 #[.pointer (some ⟨b, 0, none⟩), .int .i64 k, .int .u64 y] w fun e w' => e = .returned (.tuple #[.int .u64 (c k + y), .int .i64 0]) ∧ Stp w b (upd c k (c k + y)) n w' := by
  go_enter Try.func14, Try.ntmps14
  go_wp2_with (go_at_call 19; refine (turn_ok _ _ _ _ (h.alloc _) hn k hk 28 _ _ call28 (addF_ok _ _ _ y (by simp) hy0 hc0 hy)).mono ?_; rintro e w' ⟨rfl, rfl⟩)
  go_ret2
  exact ⟨rfl, ((stp_refl h).alloc _).set _ (by omega) _⟩

theorem add_big (h : MAt w b c n) (hn : n ≤ 16) (k : Nat) (hk : (k : Int) < n) (y : Int) (hy0 : 0 ≤ y) (hc0 : 0 ≤ c k) (hc1 : c k ≤ 4611686018427387904) (hy : 4611686018427387904 < c k + y) :
    Calls Try.prog 14 #[.pointer (some ⟨b, 0, none⟩), .int .i64 k, .int .u64 y] w fun e w' => e = .returned (.tuple #[.int .u64 0, .int .i64 10]) ∧ Stp w b c n w' := by
  by_cases hb : 4611686018427387904 < y
  · go_enter Try.func14, Try.ntmps14
    go_wp2_with (go_at_call 19; refine (turn_err _ _ _ _ (h.alloc _) hn k hk 28 _ _ _ (by decide) call28 (addF_big _ _ _ y (by simp) hb)).mono ?_; rintro e w' ⟨rfl, rfl⟩)
    go_ret2
    exact ⟨rfl, (stp_refl h).alloc _⟩
  · have hb' : y ≤ 4611686018427387904 := by omega
    go_enter Try.func14, Try.ntmps14
    go_wp2_with (go_at_call 19; refine (turn_err _ _ _ _ (h.alloc _) hn k hk 28 _ _ _ (by decide) call28 (addF_over _ _ _ y (by simp) hb' hy0 hc0 hc1 hy)).mono ?_; rintro e w' ⟨rfl, rfl⟩)
    go_ret2
    exact ⟨rfl, (stp_refl h).alloc _⟩

theorem raise_ok (h : MAt w b c n) (hn : n ≤ 16) (k : Nat) (hk : (k : Int) < n) (y : Int) (hy : y ≤ 4611686018427387904) :
    Calls Try.prog 16 #[.pointer (some ⟨b, 0, none⟩), .int .i64 k, .int .u64 y] w fun e w' => e = .returned (.int .i64 0) ∧ Stp w b (upd c k (max y (c k))) n w' := by
  go_enter Try.func16, Try.ntmps16
  go_wp2_with (go_at_call 19; refine (turn_ok _ _ _ _ (h.alloc _) hn k hk 29 _ _ call29 (raiseF_ok _ _ _ y (by simp) hy)).mono ?_; rintro e w' ⟨rfl, rfl⟩)
  go_ret
  exact ⟨rfl, ((stp_refl h).alloc _).set _ (by omega) _⟩

theorem raise_big (h : MAt w b c n) (hn : n ≤ 16) (k : Nat) (hk : (k : Int) < n) (y : Int) (hc0 : 0 ≤ c k) (hy : 4611686018427387904 < y) :
    Calls Try.prog 16 #[.pointer (some ⟨b, 0, none⟩), .int .i64 k, .int .u64 y] w fun e w' => e = .returned (.int .i64 10) ∧ Stp w b c n w' := by
  go_enter Try.func16, Try.ntmps16
  go_wp2_with (go_at_call 19; refine (turn_err _ _ _ _ (h.alloc _) hn k hk 29 _ _ _ (by decide) call29 (raiseF_big _ _ _ y (by simp) hy hc0)).mono ?_; rintro e w' ⟨rfl, rfl⟩)
  go_ret
  exact ⟨rfl, (stp_refl h).alloc _⟩

/-- New blocks alone. -/
def Nob (w w' : World) : Prop := w.grownBy w' none

theorem swap_no (m i : Value) (y err : Int) (herr : ¬ err = 0)
    (hg : ∀ W, w.grownBy W none → Calls Try.prog 17 #[m, i] W fun e w' => e = .returned (.tuple #[.pointer none, .int .i64 err]) ∧ W = w') :
    Calls Try.prog 9 #[m, i, .int .u64 y] w fun e w' => e = .returned (.tuple #[.int .u64 0, .int .i64 err]) ∧ Nob w w' := by
  have HG := Lib.hid (hg _ (World.grownBy_alloc w (.cells #[.int .u64 y] 28) none))
  clear hg
  go_enter Try.func9, Try.ntmps9
  go_wp2_with (go_at_call 19; refine (turn_no _ _ _ _ _ herr HG.out).mono ?_; rintro e w' ⟨rfl, rfl⟩)
  go_ret2
  exact ⟨rfl, World.grownBy_alloc _ _ _⟩

theorem add_no (m i : Value) (y err : Int) (herr : ¬ err = 0)
    (hg : ∀ W, w.grownBy W none → Calls Try.prog 17 #[m, i] W fun e w' => e = .returned (.tuple #[.pointer none, .int .i64 err]) ∧ W = w') :
    Calls Try.prog 14 #[m, i, .int .u64 y] w fun e w' => e = .returned (.tuple #[.int .u64 0, .int .i64 err]) ∧ Nob w w' := by
  have HG := Lib.hid (hg _ (World.grownBy_alloc w (.cells #[.int .u64 y] 28) none))
  clear hg
  go_enter Try.func14, Try.ntmps14
  go_wp2_with (go_at_call 19; refine (turn_no _ _ _ _ _ herr HG.out).mono ?_; rintro e w' ⟨rfl, rfl⟩)
  go_ret2
  exact ⟨rfl, World.grownBy_alloc _ _ _⟩

theorem raise_no (m i : Value) (y err : Int) (herr : ¬ err = 0)
    (hg : ∀ W, w.grownBy W none → Calls Try.prog 17 #[m, i] W fun e w' => e = .returned (.tuple #[.pointer none, .int .i64 err]) ∧ W = w') :
    Calls Try.prog 16 #[m, i, .int .u64 y] w fun e w' => e = .returned (.int .i64 err) ∧ Nob w w' := by
  have HG := Lib.hid (hg _ (World.grownBy_alloc w (.cells #[.int .u64 y] 28) none))
  clear hg
  go_enter Try.func16, Try.ntmps16
  go_wp2_with (go_at_call 19; refine (turn_no _ _ _ _ _ herr HG.out).mono ?_; rintro e w' ⟨rfl, rfl⟩)
  go_ret
  exact ⟨rfl, World.grownBy_alloc _ _ _⟩

end

end Go.Proofs.Ytimicedinjacaaa
