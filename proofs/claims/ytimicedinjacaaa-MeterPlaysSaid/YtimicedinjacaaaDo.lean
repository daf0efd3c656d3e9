/-
  One call, both ways: the meter and the reference tell the same.
-/
import Derived.Test.YtimicedinjacaaaRefOps
import Derived.BigQuiet
import Derived.Deep.QuietTactic
namespace Go.Proofs.Ytimicedinjacaaa
open Go.RowKit

/-- The counts are in their bounds. -/
def Bnd (c : Nat → Int) : Prop := ∀ j, 0 ≤ c j ∧ c j ≤ 4611686018427387904
theorem Bnd.upd {c : Nat → Int} (h : Bnd c) (k : Nat) (v : Int) (h0 : 0 ≤ v) (h1 : v ≤ 4611686018427387904) : Bnd (upd c k v) := by
  intro j
  unfold Ytimicedinjacaaa.upd
  split
  · exact ⟨h0, h1⟩
  · exact h j

/-- The meter in block b and the slice v have the same counts. -/
structure Both (w : World) (base b n : Nat) (c : Nat → Int) (v : Value) (w' : World) : Prop where
  at_ : MAt w' b c n
  row : ∃ g cap, v = .slice (some ⟨g, 0, none⟩) n cap ∧ RowU w' base g cap c n
  grown : w.grownBy w' (some b)
  bnd : Bnd c

/-- What the call leaves. -/
def DoPost (w : World) (base b n : Nat) (e : Ending) (w' : World) : Prop := ∃ c v, e = .returned (.tuple #[v, .bool true]) ∧ Both w base b n c v w'

theorem RowU.alloc {w : World} {base g cap : Nat} {c : Nat → Int} {n : Nat} (R : RowU w base g cap c n) (o : Obj) : RowU (w.alloc o) base g cap c n := R.grown (World.grownBy_alloc _ _ none) (by simp)
theorem grown_trans {w w1 w2 : World} {r1 : Option Nat} {b : Nat} (h : w.grownBy w1 r1) (h1 : r1 = none ∨ r1 = some b) (k : w1.grownBy w2 (some b)) : w.grownBy w2 (some b) :=
  ⟨k.os.trans h.os, k.tape.trans h.tape, k.output.trans h.output, Nat.le_trans h.size k.size,
    fun i hi hne => (k.block i (Nat.lt_of_lt_of_le hi h.size) hne).trans (h.block i hi (by rcases h1 with rfl | rfl <;> simp_all))⟩
theorem grown_any {w w1 : World} {b : Nat} (h : w.grownBy w1 none) : w.grownBy w1 (some b) := ⟨h.os, h.tape, h.output, h.size, fun i hi _ => h.block i hi (by simp)⟩
theorem upd_same (c : Nat → Int) (k : Nat) : upd c k (c k) = c := by
  funext j
  unfold upd
  split
  · next h => rw [h]
  · rfl

theorem at_outg (w : World) (b : Nat) (c : Nat → Int) (n : Nat) (h : MAt w b c n) (hn : 1 ≤ n) (i : Int) (hi : i < 0 ∨ (n : Int) ≤ i) (W : World) (hg : w.grownBy W none) :
    Calls Try.prog 17 #[.pointer (some ⟨b, 0, none⟩), .int .i64 i] W fun e w' => e = .returned (.tuple #[.pointer none, .int .i64 2]) ∧ W = w' :=
  at_out W b c n (h.grown hg (by simp)) (by omega) i hi

theorem MAt.drewN {w : World} {b : Nat} {c : Nat → Int} {n : Int} (h : MAt w b c n) (m : Nat) : MAt (w.drewN m) b c n := h
theorem RowU.drewN {w : World} {base g cap : Nat} {c : Nat → Int} {n : Nat} (R : RowU w base g cap c n) (m : Nat) : RowU (w.drewN m) base g cap c n := ⟨R.base, R.lt, R.cell, R.free⟩
theorem quiet {f : FuncId} {args : Array Value} {w : World} {m : Nat} {v : Value} (h : Calls Try.prog f args (w.drewN m) fun e w' => e = .returned v ∧ w.drewN m = w') :
    Calls Try.prog f args (w.drewN m) fun e w'' => e = .returned v ∧ ∃ k, w'' = w.drewN k := h.mono fun _ _ ⟨he, hm⟩ => ⟨he, m, hm.symm⟩

theorem fin_stp {w w2 : World} {base b g cap n : Nat} {c c' : Nat → Int} {o : Obj} (R : RowU w base g cap c n) (hgb : g ≠ b) (s : Stp (w.alloc o) b c' n w2) (hc : Bnd c') (he : ∀ i, i < n → c i = c' i) :
    Both w base b n c' (.slice (some ⟨g, 0, none⟩) n cap) w2 :=
  ⟨s.at_, ⟨g, cap, rfl, ((R.alloc o).grown s.grown (by simp; omega)).congr he⟩, grown_trans (World.grownBy_alloc w o none) (.inl rfl) s.grown, hc⟩
theorem fin_nob {w w2 : World} {base b g cap n : Nat} {c : Nat → Int} {o : Obj} (hM : MAt w b c n) (R : RowU w base g cap c n) (s : (w.alloc o).grownBy w2 none) (hc : Bnd c) :
    Both w base b n c (.slice (some ⟨g, 0, none⟩) n cap) w2 :=
  ⟨(hM.alloc o).grown s (by simp), ⟨g, cap, rfl, (R.alloc o).grown s (by simp)⟩, grown_trans (World.grownBy_alloc w o none) (.inl rfl) (grown_any s), hc⟩
theorem fin_out {w w1 w2 : World} {base b g cap n : Nat} {c' : Nat → Int} {o : Obj} (hbb : b < base) (R1 : RowU w1 base g cap c' n) (hg1 : (w.alloc o).grownBy w1 none) (s : Stp w1 b c' n w2) (hc : Bnd c') :
    Both w base b n c' (.slice (some ⟨g, 0, none⟩) n cap) w2 :=
  ⟨s.at_, ⟨g, cap, rfl, R1.grown s.grown (by have := R1.base; simp; omega)⟩, grown_trans (World.grownBy_alloc w o none) (.inl rfl) (grown_trans hg1 (.inl rfl) s.grown), hc⟩
theorem max_l {a b : Int} (h : b ≤ a) : max a b = a := Int.max_eq_left h
theorem max_r {a b : Int} (h : a ≤ b) : max a b = b := Int.max_eq_right h

section
variable (w : World) (base b g cap n : Nat) (c : Nat → Int) (hbs : base ≤ w.heap.size) (hbb : b < base) (hM : MAt w b c n) (R : RowU w base g cap c n) (h1 : 1 ≤ n) (hn : n ≤ 16) (hc : Bnd c)
include hbs hbb hM R h1 hn hc

omit hn in
set_option maxRecDepth 100000 in
theorem do1_no (i : Int) (hi : i < 0 ∨ (n : Int) ≤ i) (y : Int)  :
    Calls Try.prog 10 #[.pointer (some ⟨b, 0, none⟩), .slice (some ⟨g, 0, none⟩) n cap, .agg #[.int .i64 1, .int .i64 i, .int .u64 y]] w (DoPost w base b n) := by
  have hM0 := hM.alloc (.cells #[.int .i64 1, .int .i64 i, .int .u64 y] 36)
  have R0 := R.alloc (.cells #[.int .i64 1, .int .i64 i, .int .u64 y] 36)
  have hbs0 : base ≤ (w.alloc (.cells #[.int .i64 1, .int .i64 i, .int .u64 y] 36)).heap.size := by simp; omega
  have hgb : g ≠ b := by have := R.base; omega
  go_enter Try.func10, Try.ntmps10
  go_wp2_with (first | (go_at_call 22; refine (refRaise_no _ _ _ _ _ hi _).mono ?_; rintro e w1 ⟨rfl, rfl⟩) | (go_at_call 16; refine (raise_no _ _ _ _ 2 (by decide) (fun W hg => at_outg _ _ _ _ hM0 h1 _ hi W hg)).mono ?_; rintro e w2 ⟨rfl, n2⟩))
  go_ret2
  exact ⟨c, _, rfl, fin_nob hM R n2 hc⟩
set_option maxRecDepth 100000 in
theorem do1_big (k : Nat) (hk : k < n) (y : Int) (hy : 4611686018427387904 < y) :
    Calls Try.prog 10 #[.pointer (some ⟨b, 0, none⟩), .slice (some ⟨g, 0, none⟩) n cap, .agg #[.int .i64 1, .int .i64 ↑k, .int .u64 y]] w (DoPost w base b n) := by
  have hM0 := hM.alloc (.cells #[.int .i64 1, .int .i64 ↑k, .int .u64 y] 36)
  have R0 := R.alloc (.cells #[.int .i64 1, .int .i64 ↑k, .int .u64 y] 36)
  have hbs0 : base ≤ (w.alloc (.cells #[.int .i64 1, .int .i64 ↑k, .int .u64 y] 36)).heap.size := by simp; omega
  have hgb : g ≠ b := by have := R.base; omega
  go_enter Try.func10, Try.ntmps10
  go_wp2_with (first | (go_at_call 22; refine (refRaise_big _ _ _ _ _ _ R0 k hk y hy).mono ?_; rintro e w1 ⟨rfl, rfl⟩) | (go_at_call 16; refine (raise_big _ _ _ _ hM0 (by omega) k (by omega) y (hc k).1 hy).mono ?_; rintro e w2 ⟨rfl, s2⟩))
  go_ret2
  exact ⟨c, _, rfl, fin_stp R hgb s2 hc (fun _ _ => rfl)⟩
set_option maxRecDepth 100000 in
theorem do1_le (k : Nat) (hk : k < n) (y : Int) (hy : y ≤ 4611686018427387904) (hy2 : y ≤ c k) :
    Calls Try.prog 10 #[.pointer (some ⟨b, 0, none⟩), .slice (some ⟨g, 0, none⟩) n cap, .agg #[.int .i64 1, .int .i64 ↑k, .int .u64 y]] w (DoPost w base b n) := by
  have hM0 := hM.alloc (.cells #[.int .i64 1, .int .i64 ↑k, .int .u64 y] 36)
  have R0 := R.alloc (.cells #[.int .i64 1, .int .i64 ↑k, .int .u64 y] 36)
  have hbs0 : base ≤ (w.alloc (.cells #[.int .i64 1, .int .i64 ↑k, .int .u64 y] 36)).heap.size := by simp; omega
  have hgb : g ≠ b := by have := R.base; omega
  go_enter Try.func10, Try.ntmps10
  go_wp2_with (first | (go_at_call 22; refine (refRaise_le _ _ _ _ _ _ R0 k hk y hy hy2).mono ?_; rintro e w1 ⟨rfl, rfl⟩) | (go_at_call 16; refine (raise_ok _ _ _ _ hM0 (by omega) k (by omega) y hy).mono ?_; rintro e w2 ⟨rfl, s2⟩))
  go_ret2
  rw [max_r hy2, upd_same] at s2
  exact ⟨c, _, rfl, fin_stp R hgb s2 hc (fun _ _ => rfl)⟩
set_option maxRecDepth 100000 in
theorem do1_ok (k : Nat) (hk : k < n) (y : Int) (hy : y ≤ 4611686018427387904) (hy2 : c k < y) :
    Calls Try.prog 10 #[.pointer (some ⟨b, 0, none⟩), .slice (some ⟨g, 0, none⟩) n cap, .agg #[.int .i64 1, .int .i64 ↑k, .int .u64 y]] w (DoPost w base b n) := by
  have hM0 := hM.alloc (.cells #[.int .i64 1, .int .i64 ↑k, .int .u64 y] 36)
  have R0 := R.alloc (.cells #[.int .i64 1, .int .i64 ↑k, .int .u64 y] 36)
  have hbs0 : base ≤ (w.alloc (.cells #[.int .i64 1, .int .i64 ↑k, .int .u64 y] 36)).heap.size := by simp; omega
  have hgb : g ≠ b := by have := R.base; omega
  go_enter Try.func10, Try.ntmps10
  go_wp2_with (first | (go_at_call 22; refine (refRaise_ok _ _ _ _ _ _ hbs0 R0 hn k hk y hy hy2).mono ?_; rintro e w1 ⟨v, rfl, ho⟩; obtain ⟨g1, cap1, hv, R1, hg1⟩ := ho; subst hv; have hM1 := hM0.grown hg1 (by simp); have q1 := hg1.cell (a := ⟨w.heap.size, 1, none⟩) (v := .int .i64 k) (by simp) (by simp); have q2 := hg1.cell (a := ⟨w.heap.size, 2, none⟩) (v := .int .u64 y) (by simp) (by simp)) | (go_at_call 16; refine (raise_ok _ _ _ _ hM1 (by omega) k (by omega) y hy).mono ?_; rintro e w2 ⟨rfl, s2⟩))
  go_ret2
  rw [max_l (by omega)] at s2
  exact ⟨_, _, rfl, fin_out hbb R1 hg1 s2 (hc.upd k y (by have := (hc k).1; omega) hy)⟩
omit hn in
set_option maxRecDepth 100000 in
theorem do2_no (i : Int) (hi : i < 0 ∨ (n : Int) ≤ i) (y : Int)  :
    Calls Try.prog 10 #[.pointer (some ⟨b, 0, none⟩), .slice (some ⟨g, 0, none⟩) n cap, .agg #[.int .i64 2, .int .i64 i, .int .u64 y]] w (DoPost w base b n) := by
  have hM0 := hM.alloc (.cells #[.int .i64 2, .int .i64 i, .int .u64 y] 36)
  have R0 := R.alloc (.cells #[.int .i64 2, .int .i64 i, .int .u64 y] 36)
  have hbs0 : base ≤ (w.alloc (.cells #[.int .i64 2, .int .i64 i, .int .u64 y] 36)).heap.size := by simp; omega
  have hgb : g ≠ b := by have := R.base; omega
  go_enter Try.func10, Try.ntmps10
  go_wp2_with (first | (go_at_call 23; refine (refSwap_no _ _ _ _ _ hi _).mono ?_; rintro e w1 ⟨rfl, rfl⟩) | (go_at_call 9; refine (swap_no _ _ _ _ 2 (by decide) (fun W hg => at_outg _ _ _ _ hM0 h1 _ hi W hg)).mono ?_; rintro e w2 ⟨rfl, n2⟩))
  go_ret2
  exact ⟨c, _, rfl, fin_nob hM R n2 hc⟩
set_option maxRecDepth 100000 in
theorem do2_big (k : Nat) (hk : k < n) (y : Int) (hy : 4611686018427387904 < y) :
    Calls Try.prog 10 #[.pointer (some ⟨b, 0, none⟩), .slice (some ⟨g, 0, none⟩) n cap, .agg #[.int .i64 2, .int .i64 ↑k, .int .u64 y]] w (DoPost w base b n) := by
  have hM0 := hM.alloc (.cells #[.int .i64 2, .int .i64 ↑k, .int .u64 y] 36)
  have R0 := R.alloc (.cells #[.int .i64 2, .int .i64 ↑k, .int .u64 y] 36)
  have hbs0 : base ≤ (w.alloc (.cells #[.int .i64 2, .int .i64 ↑k, .int .u64 y] 36)).heap.size := by simp; omega
  have hgb : g ≠ b := by have := R.base; omega
  go_enter Try.func10, Try.ntmps10
  go_wp2_with (first | (go_at_call 23; refine (refSwap_big _ _ _ _ _ _ R0 k hk y hy).mono ?_; rintro e w1 ⟨rfl, rfl⟩) | (go_at_call 9; refine (swap_big _ _ _ _ hM0 (by omega) k (by omega) y hy).mono ?_; rintro e w2 ⟨rfl, s2⟩))
  go_ret2
  exact ⟨c, _, rfl, fin_stp R hgb s2 hc (fun _ _ => rfl)⟩
set_option maxRecDepth 100000 in
theorem do2_ok (k : Nat) (hk : k < n) (y : Int) (hy0 : 0 ≤ y) (hy : y ≤ 4611686018427387904) :
    Calls Try.prog 10 #[.pointer (some ⟨b, 0, none⟩), .slice (some ⟨g, 0, none⟩) n cap, .agg #[.int .i64 2, .int .i64 ↑k, .int .u64 y]] w (DoPost w base b n) := by
  have hM0 := hM.alloc (.cells #[.int .i64 2, .int .i64 ↑k, .int .u64 y] 36)
  have R0 := R.alloc (.cells #[.int .i64 2, .int .i64 ↑k, .int .u64 y] 36)
  have hbs0 : base ≤ (w.alloc (.cells #[.int .i64 2, .int .i64 ↑k, .int .u64 y] 36)).heap.size := by simp; omega
  have hgb : g ≠ b := by have := R.base; omega
  go_enter Try.func10, Try.ntmps10
  go_wp2_with (first | (go_at_call 23; refine (refSwap_ok _ _ _ _ _ _ hbs0 R0 hn k hk y hy).mono ?_; rintro e w1 ⟨v, rfl, ho⟩; obtain ⟨g1, cap1, hv, R1, hg1⟩ := ho; subst hv; have hM1 := hM0.grown hg1 (by simp); have q1 := hg1.cell (a := ⟨w.heap.size, 1, none⟩) (v := .int .i64 k) (by simp) (by simp); have q2 := hg1.cell (a := ⟨w.heap.size, 2, none⟩) (v := .int .u64 y) (by simp) (by simp)) | (go_at_call 9; refine (swap_ok _ _ _ _ hM1 (by omega) k (by omega) y hy).mono ?_; rintro e w2 ⟨rfl, s2⟩))
  go_ret2
  exact ⟨_, _, rfl, fin_out hbb R1 hg1 s2 (hc.upd k y hy0 hy)⟩
set_option maxRecDepth 100000 in
theorem do3_no (i : Int) (hi : i < 0 ∨ (n : Int) ≤ i) (y : Int)  :
    Calls Try.prog 10 #[.pointer (some ⟨b, 0, none⟩), .slice (some ⟨g, 0, none⟩) n cap, .agg #[.int .i64 3, .int .i64 i, .int .u64 y]] w (DoPost w base b n) := by
  have hM0 := hM.alloc (.cells #[.int .i64 3, .int .i64 i, .int .u64 y] 36)
  have R0 := R.alloc (.cells #[.int .i64 3, .int .i64 i, .int .u64 y] 36)
  have hbs0 : base ≤ (w.alloc (.cells #[.int .i64 3, .int .i64 i, .int .u64 y] 36)).heap.size := by simp; omega
  have hgb : g ≠ b := by have := R.base; omega
  go_enter Try.func10, Try.ntmps10
  go_wp2_with (first | (go_at_call 24; refine (refOnce_no _ _ _ _ hi _).mono ?_; rintro e w1 ⟨rfl, rfl⟩) | (go_at_call 8; refine (once_no _ _ _ 2 (by decide) (at_out _ _ _ _ hM0 (by omega) _ hi)).mono ?_; rintro e w2 ⟨rfl, rfl⟩))
  go_ret2
  exact ⟨c, _, rfl, fin_nob hM R (World.grownBy.refl _ _) hc⟩
set_option maxRecDepth 100000 in
theorem do3_miss (k : Nat) (hk : k < n) (y : Int) (hz : ¬ c k = 0) :
    Calls Try.prog 10 #[.pointer (some ⟨b, 0, none⟩), .slice (some ⟨g, 0, none⟩) n cap, .agg #[.int .i64 3, .int .i64 ↑k, .int .u64 y]] w (DoPost w base b n) := by
  have hM0 := hM.alloc (.cells #[.int .i64 3, .int .i64 ↑k, .int .u64 y] 36)
  have R0 := R.alloc (.cells #[.int .i64 3, .int .i64 ↑k, .int .u64 y] 36)
  have hbs0 : base ≤ (w.alloc (.cells #[.int .i64 3, .int .i64 ↑k, .int .u64 y] 36)).heap.size := by simp; omega
  have hgb : g ≠ b := by have := R.base; omega
  go_enter Try.func10, Try.ntmps10
  go_wp2_with (first | (go_at_call 24; refine (refOnce_miss _ _ _ _ _ _ R0 k hk hz).mono ?_; rintro e w1 ⟨rfl, rfl⟩) | (go_at_call 8; refine (once_miss _ _ _ _ hM0 (by omega) k (by omega) hz).mono ?_; rintro e w2 ⟨rfl, rfl⟩))
  go_ret2
  exact ⟨c, _, rfl, fin_nob hM R (World.grownBy.refl _ _) hc⟩
set_option maxRecDepth 100000 in
theorem do3_hit (k : Nat) (hk : k < n) (y : Int) (hz : c k = 0) :
    Calls Try.prog 10 #[.pointer (some ⟨b, 0, none⟩), .slice (some ⟨g, 0, none⟩) n cap, .agg #[.int .i64 3, .int .i64 ↑k, .int .u64 y]] w (DoPost w base b n) := by
  have hM0 := hM.alloc (.cells #[.int .i64 3, .int .i64 ↑k, .int .u64 y] 36)
  have R0 := R.alloc (.cells #[.int .i64 3, .int .i64 ↑k, .int .u64 y] 36)
  have hbs0 : base ≤ (w.alloc (.cells #[.int .i64 3, .int .i64 ↑k, .int .u64 y] 36)).heap.size := by simp; omega
  have hgb : g ≠ b := by have := R.base; omega
  have HZ := Lib.hid hz
  clear hz
  go_enter Try.func10, Try.ntmps10
  go_wp2_with (first | (go_at_call 24; refine (refOnce_hit _ _ _ _ _ _ hbs0 R0 hn k hk HZ.out).mono ?_; rintro e w1 ⟨v, rfl, ho⟩; obtain ⟨g1, cap1, hv, R1, hg1⟩ := ho; subst hv; have hM1 := hM0.grown hg1 (by simp); have q1 := hg1.cell (a := ⟨w.heap.size, 1, none⟩) (v := .int .i64 k) (by simp) (by simp); have q2 := hg1.cell (a := ⟨w.heap.size, 2, none⟩) (v := .int .u64 y) (by simp) (by simp)) | (go_at_call 8; refine (once_hit _ _ _ _ hM1 (by omega) k (by omega) HZ.out).mono ?_; rintro e w2 ⟨rfl, s2⟩))
  go_ret2
  exact ⟨_, _, rfl, fin_out hbb R1 hg1 s2 (hc.upd k 1 (by omega) (by omega))⟩
set_option maxRecDepth 100000 in
theorem do4_no (i : Int) (hi : i < 0 ∨ (n : Int) ≤ i) (y : Int)  :
    Calls Try.prog 10 #[.pointer (some ⟨b, 0, none⟩), .slice (some ⟨g, 0, none⟩) n cap, .agg #[.int .i64 4, .int .i64 i, .int .u64 y]] w (DoPost w base b n) := by
  have hM0 := hM.alloc (.cells #[.int .i64 4, .int .i64 i, .int .u64 y] 36)
  have R0 := R.alloc (.cells #[.int .i64 4, .int .i64 i, .int .u64 y] 36)
  have hbs0 : base ≤ (w.alloc (.cells #[.int .i64 4, .int .i64 i, .int .u64 y] 36)).heap.size := by simp; omega
  have hgb : g ≠ b := by have := R.base; omega
  go_enter Try.func10, Try.ntmps10
  go_wp2
  go_quiet ((first | (go_at_call 15; exact quiet (get_no _ _ _ 2 (by decide) (at_out _ _ _ _ (hM0.drewN _) (by omega) _ hi))) | (go_at_call 25; exact quiet (refGet_no _ _ _ _ hi _))))
  go_wp2
  go_ret2
  exact ⟨c, _, rfl, fin_nob hM R ⟨rfl, rfl, rfl, Nat.le_refl _, fun _ _ _ => rfl⟩ hc⟩
set_option maxRecDepth 100000 in
theorem do4_in (k : Nat) (hk : k < n) (y : Int)  :
    Calls Try.prog 10 #[.pointer (some ⟨b, 0, none⟩), .slice (some ⟨g, 0, none⟩) n cap, .agg #[.int .i64 4, .int .i64 ↑k, .int .u64 y]] w (DoPost w base b n) := by
  have hM0 := hM.alloc (.cells #[.int .i64 4, .int .i64 ↑k, .int .u64 y] 36)
  have R0 := R.alloc (.cells #[.int .i64 4, .int .i64 ↑k, .int .u64 y] 36)
  have hbs0 : base ≤ (w.alloc (.cells #[.int .i64 4, .int .i64 ↑k, .int .u64 y] 36)).heap.size := by simp; omega
  have hgb : g ≠ b := by have := R.base; omega
  go_enter Try.func10, Try.ntmps10
  go_wp2
  go_quiet ((first | (go_at_call 15; exact quiet (get_in _ _ _ _ (hM0.drewN _) (by omega) k (by omega))) | (go_at_call 25; exact quiet (refGet_in _ _ _ _ _ _ (R0.drewN _) k hk))))
  go_wp2
  go_ret2
  exact ⟨c, _, rfl, fin_nob hM R ⟨rfl, rfl, rfl, Nat.le_refl _, fun _ _ _ => rfl⟩ hc⟩
omit hn in
set_option maxRecDepth 100000 in
theorem do0_no (K : Int) (k1 : (K == 1) = false) (k2 : (K == 2) = false) (k3 : (K == 3) = false) (k4 : (K == 4) = false) (i : Int) (hi : i < 0 ∨ (n : Int) ≤ i) (y : Int)  :
    Calls Try.prog 10 #[.pointer (some ⟨b, 0, none⟩), .slice (some ⟨g, 0, none⟩) n cap, .agg #[.int .i64 K, .int .i64 i, .int .u64 y]] w (DoPost w base b n) := by
  have hM0 := hM.alloc (.cells #[.int .i64 K, .int .i64 i, .int .u64 y] 36)
  have R0 := R.alloc (.cells #[.int .i64 K, .int .i64 i, .int .u64 y] 36)
  have hbs0 : base ≤ (w.alloc (.cells #[.int .i64 K, .int .i64 i, .int .u64 y] 36)).heap.size := by simp; omega
  have hgb : g ≠ b := by have := R.base; omega
  go_enter Try.func10, Try.ntmps10
  go_wp2_with (first | (go_at_call 26; refine (refAdd_no _ _ _ _ _ hi _).mono ?_; rintro e w1 ⟨rfl, rfl⟩) | (go_at_call 14; refine (add_no _ _ _ _ 2 (by decide) (fun W hg => at_outg _ _ _ _ hM0 h1 _ hi W hg)).mono ?_; rintro e w2 ⟨rfl, n2⟩))
  go_ret2
  exact ⟨c, _, rfl, fin_nob hM R n2 hc⟩
set_option maxRecDepth 100000 in
theorem do0_big (K : Int) (k1 : (K == 1) = false) (k2 : (K == 2) = false) (k3 : (K == 3) = false) (k4 : (K == 4) = false) (k : Nat) (hk : k < n) (y : Int) (hy0 : 0 ≤ y) (hy : 4611686018427387904 - c k < y) :
    Calls Try.prog 10 #[.pointer (some ⟨b, 0, none⟩), .slice (some ⟨g, 0, none⟩) n cap, .agg #[.int .i64 K, .int .i64 ↑k, .int .u64 y]] w (DoPost w base b n) := by
  have hM0 := hM.alloc (.cells #[.int .i64 K, .int .i64 ↑k, .int .u64 y] 36)
  have R0 := R.alloc (.cells #[.int .i64 K, .int .i64 ↑k, .int .u64 y] 36)
  have hbs0 : base ≤ (w.alloc (.cells #[.int .i64 K, .int .i64 ↑k, .int .u64 y] 36)).heap.size := by simp; omega
  have hgb : g ≠ b := by have := R.base; omega
  go_enter Try.func10, Try.ntmps10
  go_wp2_with (first | (go_at_call 26; refine (refAdd_big _ _ _ _ _ _ R0 k hk y (hc k).1 (hc k).2 hy).mono ?_; rintro e w1 ⟨rfl, rfl⟩) | (go_at_call 14; refine (add_big _ _ _ _ hM0 (by omega) k (by omega) y hy0 (hc k).1 (hc k).2 (by omega)).mono ?_; rintro e w2 ⟨rfl, s2⟩))
  go_ret2
  exact ⟨c, _, rfl, fin_stp R hgb s2 hc (fun _ _ => rfl)⟩
set_option maxRecDepth 100000 in
theorem do0_ok (K : Int) (k1 : (K == 1) = false) (k2 : (K == 2) = false) (k3 : (K == 3) = false) (k4 : (K == 4) = false) (k : Nat) (hk : k < n) (y : Int) (hy0 : 0 ≤ y) (hy : y ≤ 4611686018427387904 - c k) :
    Calls Try.prog 10 #[.pointer (some ⟨b, 0, none⟩), .slice (some ⟨g, 0, none⟩) n cap, .agg #[.int .i64 K, .int .i64 ↑k, .int .u64 y]] w (DoPost w base b n) := by
  have hM0 := hM.alloc (.cells #[.int .i64 K, .int .i64 ↑k, .int .u64 y] 36)
  have R0 := R.alloc (.cells #[.int .i64 K, .int .i64 ↑k, .int .u64 y] 36)
  have hbs0 : base ≤ (w.alloc (.cells #[.int .i64 K, .int .i64 ↑k, .int .u64 y] 36)).heap.size := by simp; omega
  have hgb : g ≠ b := by have := R.base; omega
  go_enter Try.func10, Try.ntmps10
  go_wp2_with (first | (go_at_call 26; refine (refAdd_ok _ _ _ _ _ _ hbs0 R0 hn k hk y (hc k).1 (hc k).2 hy0 hy).mono ?_; rintro e w1 ⟨v, rfl, ho⟩; obtain ⟨g1, cap1, hv, R1, hg1⟩ := ho; subst hv; have hM1 := hM0.grown hg1 (by simp); have q1 := hg1.cell (a := ⟨w.heap.size, 1, none⟩) (v := .int .i64 k) (by simp) (by simp); have q2 := hg1.cell (a := ⟨w.heap.size, 2, none⟩) (v := .int .u64 y) (by simp) (by simp)) | (go_at_call 14; refine (add_ok _ _ _ _ hM1 (by omega) k (by omega) y hy0 (hc k).1 (by omega)).mono ?_; rintro e w2 ⟨rfl, s2⟩))
  go_ret2
  exact ⟨_, _, rfl, fin_out hbb R1 hg1 s2 (hc.upd k _ (by have := (hc k).1; omega) (by omega))⟩
end
end Go.Proofs.Ytimicedinjacaaa
