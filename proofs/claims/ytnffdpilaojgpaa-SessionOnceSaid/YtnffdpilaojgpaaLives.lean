/-
  The chapter's example, which each law of chapter 20 looks at.
-/
import Derived.Test.YtnffdpilaojgpaaDone
namespace Go.Proofs.Ytnffdpilaojgpaa
set_option linter.unusedVariables false
set_option linter.unusedSimpArgs false
open Go.RowKit Go.Maps Go.Proofs.YtnffdpilaojgpaaW.PrintWords Go.Proofs.YtnffdpilaojgpaaW.PrintMore Go.Proofs.Ytnffdpilaojgpaa.PSessionOnce Go.Proofs.Ytnffdpilaojgpaa.fmap

/-- The example's reply. -/
abbrev xl : S35 := ⟨0, 7, z32, [], 0, 0⟩

set_option maxRecDepth 100000 in
theorem sound_lives (w : World) : Calls Try.prog 28 #[.agg #[.int .i64 0, .int .i64 7, .int .u64 0, .int .i64 0, .int .i64 0, .int .i64 0, .int .u64 0, .int .i64 0, .int .i64 0, .int .i64 0, .int .i64 0, .slice none 0 0, .int .u64 0, .int .i64 0]] w
    fun e w' => e = .returned (.bool true) ∧ Below w.heap.size w w' := by
  go_enter Try.func28, Try.ntmps28
  go_wp2_with (go_at_call 44; refine (reply_none.calls 0 0 0 0 0 0 0 0 0 true _ rfl).mono ?_; rintro e w1 ⟨rfl, hb⟩)
  go_ret
  exact ⟨rfl, (alloc_below _ _).trans (hb.mono (by simp))⟩

theorem wf_small (k : Int) (h0 : 0 ≤ k) (h1 : k < 18446744073709551616) : (Lit.int .u64 k).wf = true := by
  simp [Lit.wf, IntKind.min, IntKind.max, IntKind.bits, IntKind.signed]
  omega

/-- A table in block b, its map in block tm. -/
structure Tab (w : World) (b tm n : Nat) (f : Lit → Option Value) : Prop where
  blk : w.heap[b]? = some (.cells #[.map (some tm)] 66 (0, 0))
  map : FM w Try.prog 29 tm n f
section
variable {w w' : World} {b tm n : Nat} {f : Lit → Option Value}
theorem Tab.c0 (h : Tab w b tm n f) : w.cell? ⟨b, 0, none⟩ = some (.map (some tm)) := blk_cell h.blk 0
theorem Tab.below (h : Tab w b tm n f) (hb : Below w.heap.size w w') : Tab w' b tm n f := ⟨blk_below h.blk hb, h.map.kept (nob_iff.1 hb) (by simp)⟩
theorem Tab.ne (h : Tab w b tm n f) : b ≠ tm := by
  rintro rfl
  obtain ⟨es, clock, hb⟩ := h.map.block
  have := h.blk
  rw [hb] at this
  cases this
theorem Tab.stored {f' : Lit → Option Value} {n' : Nat} (h : Tab w b tm n f) (hm : FM w' Try.prog 29 tm n' f') (hg : w.grownBy w' (some tm)) : Tab w' b tm n' f' :=
  ⟨blk_grown h.blk hg (by intro e; exact h.ne (by cases e; rfl)), hm⟩
end
theorem tab_empty (w : World) : Tab ((w.alloc (.map #[] 0)).alloc (.cells #[.map (some w.heap.size)] 66)) (w.heap.size + 1) w.heap.size 0 (fun _ => none) :=
  ⟨by have := heap_alloc_new (w.alloc (.map #[] 0)) (.cells #[.map (some w.heap.size)] 66); rw [World.size_alloc] at this; exact this, (FM.made _ _ _).alloc _⟩
theorem empty_below (w : World) : Below w.heap.size w ((w.alloc (.map #[] 0)).alloc (.cells #[.map (some w.heap.size)] 66)) := (alloc_below _ _).trans ((alloc_below _ _).mono (by simp))

theorem done_lives (w : World) (b tm : Nat) (h : Tab w b tm 0 (fun _ => none)) :
    Calls Try.prog 12 #[.pointer (some ⟨b, 0, none⟩), .int .u64 1, .int .u64 5, .agg #[.int .i64 0, .int .i64 7, .int .u64 0, .int .i64 0, .int .i64 0, .int .i64 0, .int .u64 0, .int .i64 0, .int .i64 0, .int .i64 0, .int .i64 0, .slice none 0 0, .int .u64 0, .int .i64 0]] w (Notes w tm 0 (fun _ => none) 1 5 xl) :=
  done_sure w b tm 0 _ h.c0 h.map (by omega) (wf_small 1 (by omega) (by omega)) (looks_none h.map (wf_small 1 (by omega) (by omega)) rfl) (by omega) xl none 0 UC.nil (Nat.le_refl _) (by simp) (by omega) (by omega) sound_lives

set_option maxRecDepth 100000 in
set_option maxHeartbeats 800000 in
theorem lives_true (w : World) : Calls Try.prog 8 #[] w fun e w' => e = .returned (.bool true) ∧ Below w.heap.size w w' := by
  have HT := Lib.hid (tab_empty w)
  have HB := Lib.hid (empty_below w)
  have hu35 := Try.underlying35
  go_enter Try.func8, Try.ntmps8
  go_wp2_with (first
    | (go_at_call 9; (with_reducible refine (empty_ok _).mono ?_); rintro e w1 ⟨rfl, rfl⟩)
    | (go_at_call 12; (with_reducible refine (done_lives _ _ _ HT.out).mono ?_); rintro e w2 ⟨rfl, A, c, hm, hU, hc, hg⟩; have T2 := Lib.hid (HT.out.stored hm hg); have HL := Lib.hid (looks_some hm (k := 1) (q' := 5) (x := xl) (wf_small 1 (by omega) (by omega)) (fput_same _ _ _)); have B2 := Lib.hid (HB.out.grown hg HB.out.size (by intro k e; cases e; exact Nat.le_refl _)); have HU := Lib.hid hU; have HCC := hc; clear hm hg hU hc)
    | (go_at_call 10; (with_reducible refine (look_again (k := 1) (q := 5) _ _ _ T2.out.c0 HL.out HU.out HCC (by simp)).mono ?_); rintro e w3 ⟨A3, c3, rfl, hU3, hc3, hb3⟩; have T3 := Lib.hid (T2.out.below hb3); have L3 := Lib.hid (HL.out.below hb3); have B3 := Lib.hid (B2.out.trans (hb3.mono B2.out.size)); clear hb3 hU3)
    | (go_at_call 10; (with_reducible refine (look_old (k := 1) _ _ _ (T3.out.below (alloc_below _ _)).c0 (L3.out.below (alloc_below _ _)) (q := 4) (by omega) (.inr (by omega))).mono ?_); rintro e w4 ⟨rfl, hb4⟩; have hb4' := (alloc_below w3 _).trans (hb4.mono (by simp)); have T4 := Lib.hid (T3.out.below hb4'); have L4 := Lib.hid (L3.out.below hb4'); have B4 := Lib.hid (B3.out.trans (hb4'.mono B3.out.size)); have hx : w4.cell? ⟨w3.heap.size, 1, none⟩ = some (.int .i64 7) := ((hb4.cell (p := ⟨w3.heap.size, 1, none⟩) (by simp)).trans (blk_cell (heap_alloc_new w3 _) 1)).trans rfl; have hs4 : w3.heap.size < w4.heap.size := (by have := hb4.size; simp at this; omega); clear hb4 hb4')
    | (go_at_call 10; (with_reducible refine (look_new (k := 1) _ _ _ (T4.out.below (alloc_below _ _)).c0 (L4.out.below (alloc_below _ _)) (q := 6) (by omega)).mono ?_); rintro e w5 ⟨rfl, hb5⟩; have hb5' := (alloc_below w4 _).trans (hb5.mono (by simp)); have hx5 : w5.cell? ⟨w3.heap.size, 1, none⟩ = some (.int .i64 7) := (hb5'.cell (p := ⟨w3.heap.size, 1, none⟩) hs4).trans hx; have hs5 : w3.heap.size < w5.heap.size := Nat.lt_of_lt_of_le hs4 hb5'.size; have hx6 : (w5.alloc (.cells #[.int .i64 0, .int .i64 0, .int .u64 0, .int .i64 0, .int .i64 0, .int .i64 0, .int .u64 0, .int .i64 0, .int .i64 0, .int .i64 0, .int .i64 0, .slice none 0 0, .int .u64 0, .int .i64 0] 35)).cell? ⟨w3.heap.size, 1, none⟩ = some (.int .i64 7) := (World.cell?_alloc_lt _ _ _ hs5).trans hx5; have B5 := Lib.hid (B4.out.trans (hb5'.mono B4.out.size)); clear hb5 hb5'))
  go_ret
  exact ⟨rfl, B5.out.trans ((alloc_below _ _).mono B5.out.size)⟩
end Go.Proofs.Ytnffdpilaojgpaa
