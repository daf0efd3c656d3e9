/-
  Contracts of the table's Last, Look and Done.
-/
import Derived.Test.YtnffdpilaojgpaaBase
import Derived.Deep.RegionWith
import Derived.Deep.RegionHeld3
namespace Go.Proofs.Ytnffdpilaojgpaa
set_option linter.unusedVariables false
set_option linter.unusedSimpArgs false
open Go.RowKit Go.Maps Go.Proofs.YtnffdpilaojgpaaW.PrintWords Go.Proofs.YtnffdpilaojgpaaW.PrintMore Go.Proofs.Ytnffdpilaojgpaa.PSessionOnce Go.Proofs.Ytnffdpilaojgpaa.fmap

theorem FM.stores {w : World} {P : Program} {t k e : TypeId} {b n : Nat} {f : Lit → Option Value} (h : FM w P k b n f) (K : Keyed P k) (ht : P.underlying t = some (.map k e)) (hn : n < maxLen) {key : Value} {kl : Lit} (hkey : keyOf P k key = some kl) (val : Value) :
    ∃ w', (Instr.mapUpdate t (.map (some b)) key val).run P w = .ok () w' ∧ FM w' P k b (n + 1) (fput f kl (some val)) ∧ w.grownBy w' (some b) ∧ w'.heap.size = w.heap.size := by
  obtain ⟨D, h, rfl⟩ := h
  obtain ⟨w', hrun, r1, r2⟩ := h.store K ht hn hkey (d := .held val) (ps := []) (val := val) rfl
  exact ⟨w', hrun, ⟨_, r1, (view_put h.isMap (K.key hkey) val).symm⟩, r2.grown, by obtain ⟨es, clock, es', clock', _, rfl⟩ := r2; simp [Go.ChangeMaps.setBlock]⟩

/-- What a client asked last. -/
abbrev av (q : Int) (x : S35) (A : Option Addr) (c : Nat) : Value := .agg #[.int .u64 q, .int .i64 x.f0, .int .i64 x.f1, .int .u64 x.f2.f0, .int .i64 x.f2.f1, .int .i64 x.f2.f2, .int .i64 x.f2.f3, .int .u64 x.f2.f4, .int .i64 x.f2.f5, .int .i64 x.f2.f6, .int .i64 x.f2.f7, .int .i64 x.f2.f8, .slice A x.f3.length c, .int .u64 x.f4, .int .i64 x.f5]
theorem zero72 (w : World) : (zeroValue 72).run Try.prog w = .ok (av 0 z35 none 0) w := by kernel_rfl

/-- What the table tells of client k: q', x at A. -/
def Looks (w : World) (tm : Nat) (k q' : Int) (x : S35) (A : Option Addr) (c : Nat) (is : Bool) : Prop :=
  ∀ w1, Below w.heap.size w w1 → (Instr.lookup 64 (.map (some tm)) (.int .u64 k) true).run Try.prog w1 = .ok (.tuple #[av q' x A c, .bool is]) w1 ∧ (Instr.lookup 64 (.map (some tm)) (.int .u64 k) false).run Try.prog w1 = .ok (av q' x A c) w1
theorem Looks.below {w w' : World} {tm : Nat} {k q' : Int} {x : S35} {A : Option Addr} {c : Nat} {is : Bool} (h : Looks w tm k q' x A c is) (hb : Below w.heap.size w w') : Looks w' tm k q' x A c is :=
  fun w1 h1 => h w1 (hb.trans (h1.mono hb.size))
theorem looks_none {w : World} {tm n : Nat} {f : Lit → Option Value} (h : FM w Try.prog 29 tm n f) {k : Int} (hk : (Lit.int .u64 k).wf = true) (h0 : f (.int .u64 k) = none) : Looks w tm k 0 z35 none 0 false := by
  intro w1 hb
  have h1 := h.kept (nob_iff.1 hb) (by simp)
  have a1 := h1.look_ok law29 Try.underlying64 (zero72 w1) (keyOf_int_mk Try.underlying29 hk)
  have a2 := h1.look law29 Try.underlying64 (zero72 w1) (keyOf_int_mk Try.underlying29 hk)
  rw [h0] at a1 a2
  exact ⟨a1, a2⟩
theorem looks_some {w : World} {tm n : Nat} {f : Lit → Option Value} (h : FM w Try.prog 29 tm n f) {k q' : Int} {x : S35} {A : Option Addr} {c : Nat} (hk : (Lit.int .u64 k).wf = true) (h0 : f (.int .u64 k) = some (av q' x A c)) : Looks w tm k q' x A c true := by
  intro w1 hb
  have h1 := h.kept (nob_iff.1 hb) (by simp)
  have a1 := h1.look_ok law29 Try.underlying64 (zero72 w1) (keyOf_int_mk Try.underlying29 hk)
  have a2 := h1.look law29 Try.underlying64 (zero72 w1) (keyOf_int_mk Try.underlying29 hk)
  rw [h0] at a1 a2
  exact ⟨a1, a2⟩

theorem field72 (q : Int) (x : S35) (A : Option Addr) (c : Nat) (w : World) : (Instr.field 72 (av q x A c) 0).run Try.prog w = .ok (.int .u64 q) w := by kernel_rfl
set_option maxRecDepth 100000 in
theorem last_ok (w : World) (b tm : Nat) (hc : w.cell? ⟨b, 0, none⟩ = some (.map (some tm))) {k q' : Int} {x : S35} {A : Option Addr} {c : Nat} {is : Bool} (hL : Looks w tm k q' x A c is) :
    Calls Try.prog 14 #[.pointer (some ⟨b, 0, none⟩), .int .u64 k] w fun e w' => e = .returned (.int .u64 q') ∧ w = w' := by
  have hl := (hL w (Below.refl _ _)).2
  have hfd := field72 q' x A c w
  clear hL
  go_enter Try.func14, Try.ntmps14
  go_wp2_with (go_at_call 26; refine (none_some _ _ _ hc).mono ?_; rintro e w1 ⟨rfl, rfl⟩)
  go_ret
  exact ⟨rfl, rfl⟩

set_option maxRecDepth 100000 in
set_option maxHeartbeats 800000 in
theorem look_new (w : World) (b tm : Nat) (hc : w.cell? ⟨b, 0, none⟩ = some (.map (some tm))) {k q' q : Int} {x : S35} {A : Option Addr} {c : Nat} {is : Bool} (hL : Looks w tm k q' x A c is) (hq : q' < q) :
    Calls Try.prog 10 #[.pointer (some ⟨b, 0, none⟩), .int .u64 k, .int .u64 q] w fun e w' => e = .returned (.tuple #[.int .i64 1, .agg rz]) ∧ Below w.heap.size w w' := by
  have hl := (hL (w.alloc (.cells rz 35)) (alloc_below _ _)).1
  have hlt := World.block_lt_of_cell? _ _ hc
  have hc' := (Below.cell (alloc_below w (.cells rz 35)) (p := ⟨b, 0, none⟩) hlt).trans hc
  have hu35 := Try.underlying35
  have hu72 := Try.underlying72
  clear hL
  go_enter Try.func10, Try.ntmps10
  go_wp2_with (go_at_call 26; refine (none_some _ _ _ hc').mono ?_; rintro e w1 ⟨rfl, rfl⟩)
  refine bodyPost_ret (results_tc rfl _ _ w.heap.size 35 rz (0, 0) _ rfl (blk_alloc (heap_alloc_new w _) _) Try.underlying35 rfl (by kernel_rfl)) rfl ?_
  exact ⟨rfl, (alloc_below _ _).trans ((alloc_below _ _).mono (by simp))⟩

set_option maxRecDepth 100000 in
set_option maxHeartbeats 800000 in
theorem look_old (w : World) (b tm : Nat) (hc : w.cell? ⟨b, 0, none⟩ = some (.map (some tm))) {k q' q : Int} {x : S35} {A : Option Addr} {c : Nat} {is : Bool} (hL : Looks w tm k q' x A c is) (hq : q ≤ q') (hi : is = false ∨ q ≠ q') :
    Calls Try.prog 10 #[.pointer (some ⟨b, 0, none⟩), .int .u64 k, .int .u64 q] w fun e w' => e = .returned (.tuple #[.int .i64 3, .agg rz]) ∧ Below w.heap.size w w' := by
  have hl := (hL (w.alloc (.cells rz 35)) (alloc_below _ _)).1
  have hlt := World.block_lt_of_cell? _ _ hc
  have hc' := (Below.cell (alloc_below w (.cells rz 35)) (p := ⟨b, 0, none⟩) hlt).trans hc
  have hu35 := Try.underlying35
  have hu72 := Try.underlying72
  have hn : ¬ q' < q := by omega
  clear hL
  cases is with
  | false =>
    clear hi
    go_enter Try.func10, Try.ntmps10
    go_wp2_with (go_at_call 26; refine (none_some _ _ _ hc').mono ?_; rintro e w1 ⟨rfl, rfl⟩)
    refine bodyPost_ret (results_tc rfl _ _ w.heap.size 35 rz (0, 0) _ rfl (blk_alloc (heap_alloc_new w _) _) Try.underlying35 rfl (by kernel_rfl)) rfl ?_
    exact ⟨rfl, (alloc_below _ _).trans ((alloc_below _ _).mono (by simp))⟩
  | true =>
    have hne : (q == q') = false := by simpa using hi
    clear hi
    go_enter Try.func10, Try.ntmps10
    go_wp2_with (go_at_call 26; refine (none_some _ _ _ hc').mono ?_; rintro e w1 ⟨rfl, rfl⟩)
    refine bodyPost_ret (results_tc rfl _ _ w.heap.size 35 rz (0, 0) _ rfl (blk_alloc (heap_alloc_new w _) _) Try.underlying35 rfl (by kernel_rfl)) rfl ?_
    exact ⟨rfl, (alloc_below _ _).trans ((alloc_below _ _).mono (by simp))⟩

set_option maxRecDepth 100000 in
set_option maxHeartbeats 800000 in
theorem look_again (w : World) (b tm : Nat) (hc : w.cell? ⟨b, 0, none⟩ = some (.map (some tm))) {k q : Int} {x : S35} {A : Option Addr} {c : Nat} (hL : Looks w tm k q x A c true) (hU : UC w A x.f3) (hcp : x.f3.length ≤ c) (hlen : x.f3.length ≤ 1000) :
    Calls Try.prog 10 #[.pointer (some ⟨b, 0, none⟩), .int .u64 k, .int .u64 q] w fun e w' => ∃ A' c', e = .returned (.tuple #[.int .i64 2, .agg (rc x (.slice A' x.f3.length c'))]) ∧ UC w' A' x.f3 ∧ x.f3.length ≤ c' ∧ Below w.heap.size w w' := by
  have hl := (hL (w.alloc (.cells rz 35)) (alloc_below _ _)).1
  have hlt := World.block_lt_of_cell? _ _ hc
  have hc' := (Below.cell (alloc_below w (.cells rz 35)) (p := ⟨b, 0, none⟩) hlt).trans hc
  have hu35 := Try.underlying35
  have hu72 := Try.underlying72
  have HC := fun w1 hb => Lib.hid (copy_ok w1 x A c (hU.below hb) hcp hlen)
  have HN := Lib.hid (heap_alloc_new w (.cells rz 35))
  clear hL hU
  go_enter Try.func10, Try.ntmps10
  go_wp2_with (first
    | (go_at_call 26; refine (none_some _ _ _ hc').mono ?_; rintro e w1 ⟨rfl, rfl⟩)
    | (go_at_call 27; (with_reducible refine (HC _ ?bel).out.mono ?_); (case bel => exact (alloc_below _ _).trans ((alloc_below _ _).mono (by simp))); rintro e w2 ⟨A', c', rfl, hU', hc2, hfr, hb⟩; have bk := blk_below (blk_alloc HN.out _) hb; have y0 := blk_cell bk 0; have y1 := blk_cell bk 1; have y2 := blk_cell bk 2; have y3 := blk_cell bk 3; have y4 := blk_cell bk 4; have y5 := blk_cell bk 5; have y6 := blk_cell bk 6; have y7 := blk_cell bk 7; have y8 := blk_cell bk 8; have y9 := blk_cell bk 9; have y10 := blk_cell bk 10; have y11 := blk_cell bk 11; have y12 := blk_cell bk 12; have y13 := blk_cell bk 13; have g0 := blk_frozen bk 0; have g1 := blk_frozen bk 1; have g2 := blk_frozen bk 2; have g3 := blk_frozen bk 3; have g4 := blk_frozen bk 4; have g5 := blk_frozen bk 5; have g6 := blk_frozen bk 6; have g7 := blk_frozen bk 7; have g8 := blk_frozen bk 8; have g9 := blk_frozen bk 9; have g10 := blk_frozen bk 10; have g11 := blk_frozen bk 11; have g12 := blk_frozen bk 12; have g13 := blk_frozen bk 13; have BK := Lib.hid bk; clear bk))
  refine bodyPost_ret (results_tc rfl _ _ w.heap.size 35 (rc x (.slice A' x.f3.length c')) (0, 0) _ rfl (set14_heap rfl BK.out x _) Try.underlying35 rfl (by kernel_rfl)) rfl ?_
  have hB : Below w.heap.size w w2 := ((alloc_below _ _).trans ((alloc_below _ _).mono (by simp))).trans (hb.mono (by simp; omega))
  have hg := set14_grown w2 w.heap.size x (.slice A' x.f3.length c')
  refine ⟨A', c', rfl, hU'.kept hg (fun ad e e' => ?_), hc2, hB.grown hg hB.size (by intro k e; cases e; exact Nat.le_refl _)⟩
  have e2 : w.heap.size = ad.block := by simpa using e'
  have := hfr ad e
  simp at this
  omega
end Go.Proofs.Ytnffdpilaojgpaa
