/-
  For every input curfewlaw31.ProgressNobody returns true and leaves its arguments as they were. Conditions: none.
  (The frame of the row began as the shell that the kit's proof-skeleton.mjs writes; the walk is typed here.)
-/
import Derived.Test.YtibdjmmhdggpfaaRows
import Derived.Test.YtibdjmmhdggpfaaGVoid
import Derived.Deep.OwnRows
import Derived.WalkKit
import Derived.ProofKit
import Derived.OpenShut
import Derived.ShutString
import Derived.ChangeOld
import Derived.Below
namespace Go.Proofs.Ytibdjmmhdggpfaa.progressNobody
open Go.ChangeShapes Go.WideShapes Go.ChangeAt Go.RowKit
open Go.ChangeMaps (open_string shut_string)
open Go.Maps
open Go.Proofs.YtibdjmmhdggpfaaW.PrintWords
open Go.Proofs.YtibdjmmhdggpfaaW.PrintMore
open Go.Proofs.Ytibdjmmhdggpfaa.PPollPlays
open Go.Proofs.Ytibdjmmhdggpfaa.pure
open Go.Proofs.Ytibdjmmhdggpfaa.fmap
set_option linter.unusedVariables false

theorem own : ownKnob Try.prog.godebug = none := by kernel_rfl
theorem laidOut : laidOutB Try.prog = true := by kernel_rfl

theorem cl_one {H : Type} {enc : TypeId × Value → H} {w : World} {base : Nat} {spare : Nat → Bool} {held : Bool} {fuel : Nat} {cs : Array Value} {x : DataW H × List MemPlace}
    (h : DataW.trod enc Try.prog w base spare held fuel 55 (Value.agg cs).cells.toList = some x) (hl : cs.size = Try.prog.cellsOf 55) : ∃ (y : Cl) (A : Option Addr) (c : Nat), cs = (qc y A c).toArray ∧ ClIn w y A c := by
  rw [cells55] at hl
  have e : (Value.agg cs).cells.toList = cs.toList := rfl
  rw [e] at h
  obtain ⟨y, A, c, hy, hI⟩ := cl_in (by simpa using hl) h
  exact ⟨y, A, c, by rw [← hy], hI⟩
theorem Void.empty (w : World) : Void (w.alloc (.cells #[.map none] 77)) (.pointer (some ⟨w.heap.size, 0, none⟩)) := .inr ⟨_, rfl, blk_cell (heap_alloc_new w _) 0⟩
theorem cls_one (w : World) (x : Cl) (A : Option Addr) (c : Nat) (h : ClIn w x A c) : IsCls (w.alloc (.cells (qc x A c).toArray 55)) (some ⟨w.heap.size, 0, none⟩) 1 := by
  refine ⟨by omega, fun i hi => ?_⟩
  obtain rfl : i = 0 := by omega
  refine ⟨w.heap.size, 0, x, A, c, rfl, fun j v hv => ?_, h.below (alloc_below _ _)⟩
  simp only [Nat.zero_mul, Nat.zero_add]
  rw [blk_cell (heap_alloc_new w _)]
  simpa using hv
theorem light_one (w : World) (x : Cl) (A : Option Addr) (c : Nat) (hI : ClIn w x A c) :
    Calls Try.prog 22 #[.slice (some ⟨w.heap.size + 1, 0, none⟩) 1 1] ((w.alloc (.cells (qc x A c).toArray 55)).alloc (.cells (qc x A c).toArray 55)) fun e w' => ∃ b : Bool, e = .returned (.bool b) ∧ Below ((w.alloc (.cells (qc x A c).toArray 55)).alloc (.cells (qc x A c).toArray 55)).heap.size ((w.alloc (.cells (qc x A c).toArray 55)).alloc (.cells (qc x A c).toArray 55)) w' := by
  have h := cls_one (w.alloc (.cells (qc x A c).toArray 55)) x A c (hI.below (alloc_below _ _))
  have h2 := glight_ok _ _ 1 1 h
  rw [World.size_alloc] at h2
  refine h2.mono fun e w' he => ?_
  obtain ⟨b, h1, h2, _⟩ := he
  exact ⟨b, h1, h2⟩
abbrev sel (w : World) (self : Int) : World := w.alloc (.cells #[.int .i64 self] 3)
theorem n_agreed (w : World) (p : Value) (h : Void w p) (self own : Int) (hw1 : (Lit.int .i64 self).wf = true) (h0 : 0 ≤ self) (h6 : self ≤ 6) :
    Calls Try.prog 26 #[p, .slice (some ⟨w.heap.size, 0, none⟩) 1 1, .int .i64 self, .int .u64 own] (w.alloc (.cells #[.int .i64 self] 3)) fun e w' => e = .returned (.int .u64 own) ∧ Below w.heap.size w w' :=
  (agreed_ok _ p _ (v_lines (h.below (alloc_below _ _))) _ 1 [self] (one_C w self hw1) (by simp) (snd_one h0 h6) self own).mono fun e w' he => by
    obtain ⟨v, he, hq, hb⟩ := he
    have hv : vals (fun _ => none) self own (·.m) [self] = [own] := by simp [vals]
    rw [hv] at hq
    rw [quo_one hq] at he
    exact ⟨he, (alloc_below _ _).trans (hb.mono (by simp))⟩
theorem n_answered (w : World) (p : Value) (h : Void w p) (self own : Int) (hw1 : (Lit.int .i64 self).wf = true) (h0 : 0 ≤ self) (h6 : self ≤ 6) :
    Calls Try.prog 32 #[p, .slice (some ⟨w.heap.size, 0, none⟩) 1 1, .int .i64 self, .int .u64 own] (w.alloc (.cells #[.int .i64 self] 3)) fun e w' => e = .returned (.int .u64 own) ∧ Below w.heap.size w w' :=
  (answered_ok _ p _ (v_lines (h.below (alloc_below _ _))) _ 1 [self] (one_C w self hw1) (by simp) (snd_one h0 h6) self own).mono fun e w' he => by
    obtain ⟨v, he, hq, hb⟩ := he
    have hv : vals (fun _ => none) self own (·.r) [self] = [own] := by simp [vals]
    rw [hv] at hq
    rw [quo_one hq] at he
    exact ⟨he, (alloc_below _ _).trans (hb.mono (by simp))⟩
theorem n_live (w : World) (p : Value) (h : Void w p) (self : Int) (hw1 : (Lit.int .i64 self).wf = true) (h0 : 0 ≤ self) (h6 : self ≤ 6) :
    Calls Try.prog 39 #[p, .slice (some ⟨w.heap.size, 0, none⟩) 1 1, .int .i64 self] (w.alloc (.cells #[.int .i64 self] 3)) fun e w' => e = .returned (.bool true) ∧ Below w.heap.size w w' :=
  (v_live _ p (h.below (alloc_below _ _)) _ 1 [self] (one_C w self hw1) (by simp) (by simp) self).mono fun e w' he => by
    rw [live_one h0 h6] at he
    exact ⟨he.1, (alloc_below _ _).trans (he.2.mono (by simp))⟩
theorem n_agreed0 (w : World) (p : Value) (self own : Int) :
    Calls Try.prog 26 #[p, .slice none 0 0, .int .i64 self, .int .u64 own] w fun e w' => e = .returned (.int .u64 0) ∧ Below w.heap.size w w' := agreed_no w p none 0 [] IntC.nil (by simp) (by simp) (by decide) self own
theorem n_live0 (w : World) (p : Value) (h : Void w p) (self : Int) :
    Calls Try.prog 39 #[p, .slice none 0 0, .int .i64 self] w fun e w' => e = .returned (.bool false) ∧ Below w.heap.size w w' := v_live w p h none 0 [] IntC.nil (by simp) (by simp) self

set_option maxRecDepth 100000 in
set_option maxHeartbeats 2000000 in
theorem walk_main (x : Cl) (A : Option Addr) (c : Nat) (self own : Int) (w : World) (hI : ClIn w x A c) (hw1 : (Lit.int .i64 self).wf = true) (h0 : 0 ≤ self) (h6 : self ≤ 6) :
    Calls Try.prog 10 #[.agg (qc x A c).toArray, .int .i64 self, .int .u64 own] w fun e w' => e = .returned (.bool true) ∧ Below w.heap.size w w' := by
  have HI := Lib.hid (light_one w x A c hI)
  have HW1 := Lib.hid hw1
  have hwn := hI.wnd
  have hu := Try.underlying55
  have HX := Lib.hid (blk_alloc (heap_alloc_new w (.cells (qc x A c).toArray 55)) (.cells (qc x A c).toArray 55))
  have HB0 := Lib.hid ((alloc_below w (.cells (qc x A c).toArray 55)).trans ((alloc_below (w.alloc (.cells (qc x A c).toArray 55)) (.cells (qc x A c).toArray 55)).mono (by simp)))
  clear hI hw1
  go_enter Try.func10, Try.ntmps10
  go_upto_region 2 with (go_at_call 22; refine HI.out.mono ?_; rintro e w1 ⟨bb, rfl, hb1⟩; have HX1 := Lib.hid (blk_below HX.out hb1); have HB1 := Lib.hid (HB0.out.trans (hb1.mono HB0.out.size)); clear hb1; rcases bb with _ | _)
  · go_wp2_with (go_at_call 23; refine (glives_true _).mono ?_; rintro e w3 ⟨rfl, hb3⟩)
    go_ret
    exact ⟨rfl, HB1.out.trans (hb3.mono HB1.out.size)⟩
  go_wp2
  have sp := blk_alloc (heap_alloc_new w1 (.cells #[.map none] 77)) (.cells #[.pointer none, .pointer (some ⟨w1.heap.size, 0, none⟩)] 52)
  have sr := heap_alloc_new (w1.alloc (.cells #[.map none] 77)) (.cells #[.pointer none, .pointer (some ⟨w1.heap.size, 0, none⟩)] 52)
  have hW : Below w1.heap.size w1 ((w1.alloc (.cells #[.map none] 77)).alloc (.cells #[.pointer none, .pointer (some ⟨w1.heap.size, 0, none⟩)] 52)) := (alloc_below _ _).trans ((alloc_below _ _).mono (by simp))
  have sx := blk_below HX1.out hW
  have HB2 := Lib.hid (HB1.out.trans (hW.mono HB1.out.size))
  simp only [World.size_alloc] at sr
  generalize (w1.alloc (.cells #[.map none] 77)).alloc (.cells #[.pointer none, .pointer (some ⟨w1.heap.size, 0, none⟩)] 52) = W at sp sr sx hW HB2 ⊢
  have HD0 := Lib.hid (show Void W (.pointer none) from .inl rfl)
  have HD1 := Lib.hid (show Void W (.pointer (some ⟨w1.heap.size, 0, none⟩)) from .inr ⟨_, rfl, blk_cell sp 0⟩)
  have hlt := blk_lt sx
  have SX := fun w' (hb : Below W.heap.size W w') => Lib.hid (blk_below sx hb)
  have SR := fun w' (hb : Below W.heap.size W w') => Lib.hid (blk_below sr hb)
  clear sp sr sx hW HX HX1 HI
  go_loopw [30] (fun i wr => ∃ k : Nat, i = .int .i64 k ∧ k ≤ 2 ∧ Below W.heap.size W wr) (fun i _ => 2 - (intOf i).toNat)
  case atStart => exact ⟨0, rfl, by omega, Below.refl _ _⟩
  case round =>
    obtain ⟨k, rfl, hk, hbr⟩ := hrel
    have HBR := Lib.hid hbr
    have q0 := (blk_cell (SX wr hbr).out 0).trans rfl
    have q1 := (blk_cell (SX wr hbr).out 1).trans rfl
    have q2 := (blk_cell (SX wr hbr).out 2).trans rfl
    have q3 := (blk_cell (SX wr hbr).out 3).trans rfl
    have r0 := (blk_cell (SR wr hbr).out 0).trans rfl
    have r1 := (blk_cell (SR wr hbr).out 1).trans rfl
    clear hbr
    have hk3 : k = 0 ∨ k = 1 ∨ k = 2 := by omega
    rcases hk3 with rfl | rfl | rfl
    · have HV := Lib.hid (HD0.out.below HBR.out)
      go_wp2_with (first
        | (go_at_call 28; refine (v_line _ _ HV.out _ hwn).mono ?_; rintro e u1 ⟨rfl, hb⟩; have V1 := Lib.hid (HV.out.below hb); have B1 := Lib.hid (HBR.out.trans (hb.mono HBR.out.size)); have A1 := Lib.hid (alloc_below u1 (.cells (lc z0) 66)); clear hb)
        | (go_at_call 34; refine (v_nodes _ _ (V1.out.below A1.out)).mono ?_; rintro e u2 ⟨rfl, hb⟩; have V2 := Lib.hid ((V1.out.below A1.out).below hb); have B1a := B1.out.trans (A1.out.mono B1.out.size); have B2 := Lib.hid (B1a.trans (hb.mono B1a.size)); have p1 := (blk_cell (SX u2 B2.out).out 1).trans rfl; have p2 := (blk_cell (SX u2 B2.out).out 2).trans rfl; have p3 := (blk_cell (SX u2 B2.out).out 3).trans rfl; clear hb)
        | (go_at_call 35; refine (v_took _ _ V2.out _ _ hwn).mono ?_; rintro e u9 ⟨rfl, rfl⟩)
        | (go_at_call 36; refine (v_refused _ _ V2.out _ _ hwn).mono ?_; rintro e u9 ⟨rfl, rfl⟩)
        | (go_at_call 37; refine (v_heard _ _ V2.out _ _ hwn).mono ?_; rintro e u9 ⟨rfl, rfl⟩)
        | (go_at_call 38; refine (v_set _ _ V2.out _ _ _ _).mono ?_; rintro e u3 ⟨rfl, hb⟩; have V3 := Lib.hid (V2.out.below hb); have B3 := Lib.hid (B2.out.trans (hb.mono B2.out.size)); clear hb p1 p2 p3)
        | (go_at_call 26; (with_reducible refine (n_agreed u3 _ V3.out self own HW1.out h0 h6).mono ?_); rintro e u4 ⟨rfl, hb⟩; have V4 := Lib.hid (V3.out.below hb); have B4 := Lib.hid (B3.out.trans (hb.mono B3.out.size)); clear hb)
        | (go_at_call 32; (with_reducible refine (n_answered u4 _ V4.out self own HW1.out h0 h6).mono ?_); rintro e u5 ⟨rfl, hb⟩; have V5 := Lib.hid (V4.out.below hb); have B5 := Lib.hid (B4.out.trans (hb.mono B4.out.size)); clear hb)
        | (go_at_call 39; (with_reducible refine (n_live u5 _ V5.out self HW1.out h0 h6).mono ?_); rintro e u6 ⟨rfl, hb⟩; have V6 := Lib.hid (V5.out.below hb); have B6 := Lib.hid (B5.out.trans (hb.mono B5.out.size)); clear hb)
        | (go_at_call 26; (with_reducible refine (n_agreed0 u6 _ self own).mono ?_); rintro e u7 ⟨rfl, hb⟩; have V7 := Lib.hid (V6.out.below hb); have B7 := Lib.hid (B6.out.trans (hb.mono B6.out.size)); clear hb)
        | (go_at_call 39; (with_reducible refine (n_live0 u7 _ V7.out self).mono ?_); rintro e u8 ⟨rfl, hb⟩; have B8 := Lib.hid (B7.out.trans (hb.mono B7.out.size)); clear hb))
      go_roundw
      case rel => exact ⟨1, by go_num, by omega, B8.out⟩
      case measure => simp [intOf]
    · have HV := Lib.hid (HD1.out.below HBR.out)
      go_wp2_with (first
        | (go_at_call 28; refine (v_line _ _ HV.out _ hwn).mono ?_; rintro e u1 ⟨rfl, hb⟩; have V1 := Lib.hid (HV.out.below hb); have B1 := Lib.hid (HBR.out.trans (hb.mono HBR.out.size)); have A1 := Lib.hid (alloc_below u1 (.cells (lc z0) 66)); clear hb)
        | (go_at_call 34; refine (v_nodes _ _ (V1.out.below A1.out)).mono ?_; rintro e u2 ⟨rfl, hb⟩; have V2 := Lib.hid ((V1.out.below A1.out).below hb); have B1a := B1.out.trans (A1.out.mono B1.out.size); have B2 := Lib.hid (B1a.trans (hb.mono B1a.size)); have p1 := (blk_cell (SX u2 B2.out).out 1).trans rfl; have p2 := (blk_cell (SX u2 B2.out).out 2).trans rfl; have p3 := (blk_cell (SX u2 B2.out).out 3).trans rfl; clear hb)
        | (go_at_call 35; refine (v_took _ _ V2.out _ _ hwn).mono ?_; rintro e u9 ⟨rfl, rfl⟩)
        | (go_at_call 36; refine (v_refused _ _ V2.out _ _ hwn).mono ?_; rintro e u9 ⟨rfl, rfl⟩)
        | (go_at_call 37; refine (v_heard _ _ V2.out _ _ hwn).mono ?_; rintro e u9 ⟨rfl, rfl⟩)
        | (go_at_call 38; refine (v_set _ _ V2.out _ _ _ _).mono ?_; rintro e u3 ⟨rfl, hb⟩; have V3 := Lib.hid (V2.out.below hb); have B3 := Lib.hid (B2.out.trans (hb.mono B2.out.size)); clear hb p1 p2 p3)
        | (go_at_call 26; (with_reducible refine (n_agreed u3 _ V3.out self own HW1.out h0 h6).mono ?_); rintro e u4 ⟨rfl, hb⟩; have V4 := Lib.hid (V3.out.below hb); have B4 := Lib.hid (B3.out.trans (hb.mono B3.out.size)); clear hb)
        | (go_at_call 32; (with_reducible refine (n_answered u4 _ V4.out self own HW1.out h0 h6).mono ?_); rintro e u5 ⟨rfl, hb⟩; have V5 := Lib.hid (V4.out.below hb); have B5 := Lib.hid (B4.out.trans (hb.mono B4.out.size)); clear hb)
        | (go_at_call 39; (with_reducible refine (n_live u5 _ V5.out self HW1.out h0 h6).mono ?_); rintro e u6 ⟨rfl, hb⟩; have V6 := Lib.hid (V5.out.below hb); have B6 := Lib.hid (B5.out.trans (hb.mono B5.out.size)); clear hb)
        | (go_at_call 26; (with_reducible refine (n_agreed0 u6 _ self own).mono ?_); rintro e u7 ⟨rfl, hb⟩; have V7 := Lib.hid (V6.out.below hb); have B7 := Lib.hid (B6.out.trans (hb.mono B6.out.size)); clear hb)
        | (go_at_call 39; (with_reducible refine (n_live0 u7 _ V7.out self).mono ?_); rintro e u8 ⟨rfl, hb⟩; have B8 := Lib.hid (B7.out.trans (hb.mono B7.out.size)); clear hb))
      go_roundw
      case rel => exact ⟨2, by go_num, by omega, B8.out⟩
      case measure => simp [intOf]
    · go_wp2_with (go_at_call 23; refine (glives_true _).mono ?_; rintro e w3 ⟨rfl, hb3⟩)
      go_ret
      have b1 := HB2.out.trans (HBR.out.mono HB2.out.size)
      exact ⟨rfl, b1.trans (hb3.mono b1.size)⟩

set_option maxRecDepth 100000 in
theorem walk_lives (x : Cl) (A : Option Addr) (c : Nat) (self own : Int) (w : World) (hI : ClIn w x A c) (h : self < 0 ∨ 6 < self) :
    Calls Try.prog 10 #[.agg (qc x A c).toArray, .int .i64 self, .int .u64 own] w fun e w' => e = .returned (.bool true) ∧ Below w.heap.size w w' := by
  have HI := Lib.hid (light_one w x A c hI)
  have hu := Try.underlying55
  have HB0 := Lib.hid ((alloc_below w (.cells (qc x A c).toArray 55)).trans ((alloc_below (w.alloc (.cells (qc x A c).toArray 55)) (.cells (qc x A c).toArray 55)).mono (by simp)))
  clear hI
  by_cases h0 : self < 0
  · clear h
    go_enter Try.func10, Try.ntmps10
    go_wp2_with (first
      | (go_at_call 22; refine HI.out.mono ?_; rintro e w1 ⟨bb, rfl, hb1⟩; have HB1 := Lib.hid (HB0.out.trans (hb1.mono HB0.out.size)); clear hb1; rcases bb with _ | _)
      | (go_at_call 23; refine (glives_true _).mono ?_; rintro e w3 ⟨rfl, hb3⟩))
    all_goals
      go_ret
      exact ⟨rfl, HB1.out.trans (hb3.mono HB1.out.size)⟩
  · have h6 : 6 < self := h.resolve_left h0
    clear h
    go_enter Try.func10, Try.ntmps10
    go_wp2_with (first
      | (go_at_call 22; refine HI.out.mono ?_; rintro e w1 ⟨bb, rfl, hb1⟩; have HB1 := Lib.hid (HB0.out.trans (hb1.mono HB0.out.size)); clear hb1; rcases bb with _ | _)
      | (go_at_call 23; refine (glives_true _).mono ?_; rintro e w3 ⟨rfl, hb3⟩))
    all_goals
      go_ret
      exact ⟨rfl, HB1.out.trans (hb3.mono HB1.out.size)⟩

theorem walk (x : Cl) (A : Option Addr) (c : Nat) (self own : Int) (w : World) (hI : ClIn w x A c) (hw1 : (Lit.int .i64 self).wf = true) :
    Calls Try.prog 10 #[.agg (qc x A c).toArray, .int .i64 self, .int .u64 own] w fun e w' => e = .returned (.bool true) ∧ Below w.heap.size w w' := by
  by_cases h : self < 0 ∨ 6 < self
  · exact walk_lives x A c self own w hI h
  · exact walk_main x A c self own w hI hw1 (by omega) (by omega)

/-! ### The row's step -/
set_option maxRecDepth 100000 in
theorem lifted (os : Os) (started : os.Started) (H : Type) (enc : TypeId × Value → H) :
    ReturnsInHanded {} Try.checked os 10 .any (Rows.progressNobodySpec.pre6 enc Try.prog Try.f10 Rows.progressNobodyRow.domain false) (Rows.progressNobodySpec.post enc Try.prog Try.f10 false true false false) := by
  refine returnsInHanded_of_change (C := Try.checked) own started (by kernel_rfl) Try.func10
    (ChangeSpec.witness6 (enc := enc) (C := Try.checked) false ⟨#[], #[.agg #[.int .i64 0, .int .i64 0, .int .u64 0, .slice none 0 0], .int .i64 0, .int .u64 0], []⟩ 8 (by kernel_rfl) (by kernel_rfl) (by kernel_rfl) (by kernel_rfl)) ?_
  intro W base args ds gs before hval0 hW hcnd _
  have hval : ∀ (j : Nat) t v, Try.f10.params[j]? = some t → args[j]? = some v → Value.okWide Try.prog W .any base t v := hval0
  have hW' := hW
  obtain ⟨p, q, hA0, hV, rfl, hfz, hnd⟩ := hW
  have hA : DataW.TrodAll enc Try.prog W 0 (fun _ => true) true Try.f10.params.toList args.toList ds p := hA0
  rw [Try.params10] at hA hval
  obtain ⟨v0, vs0, d0, ds0, p0, q0, hargs, rfl, rfl, h0, r0⟩ := trodAll_cons hA
  obtain ⟨v1, vs1, d1, ds1, p1, q1, rfl, rfl, rfl, h1, r1⟩ := trodAll_cons r0
  obtain ⟨v2, vs2, d2, ds2, p2, q2, rfl, rfl, rfl, h2, r2⟩ := trodAll_cons r1
  obtain ⟨rfl, rfl, rfl⟩ := trodAll_nil r2
  obtain rfl : args = #[v0, v1, v2] := by cases args; simp_all
  obtain ⟨rfl, rfl⟩ := trodVars_none hV
  obtain ⟨cs0, rfl, hsz0⟩ := okWide_struct Try.underlying55 (hval 0 55 v0 rfl rfl)
  have k0 := h0
  have lt0 : ∀ x ∈ p0, x.block < W.heap.size := by obtain ⟨m, hm⟩ := k0; exact DataW.trod_lt m _ _ _ hm
  obtain ⟨x0, A0, c0, rfl, hI0⟩ := (show ∃ (y : Cl) (A : Option Addr) (c : Nat), cs0 = (qc y A c).toArray ∧ ClIn W y A c by obtain ⟨fuel, hf⟩ := h0; exact cl_one hf hsz0)
  obtain ⟨a1, rfl, rfl, rfl, w1⟩ := open_int Try.underlying3 (hval 1 3 v1 rfl rfl) h1
  obtain ⟨a2, rfl, rfl, rfl, w2⟩ := open_int Try.underlying50 (hval 2 50 v2 rfl rfl) h2
  clear hA0 hval0
  refine (walk x0 A0 c0 a1 a2 W hI0 w1).mono fun e W' ⟨he, bel⟩ => ?_
  subst he
  exact ⟨_, rfl, _, _, _, [], _, [], hW', trodAll_mk1 (shut_bool Try.underlying4 _), (trodAll_cons_mk (Below.trod laidOut (by kernel_rfl) (of_decide_eq_true (by kernel_rfl)) k0 bel lt0) (trodAll_cons_mk (shut_int Try.underlying3 w1) (trodAll_cons_mk (shut_int Try.underlying50 w2) trodAll_mk0))), rfl, bel.frame _, fun h => by cases h⟩

theorem over : Rows.progressNobodyRow.holds Try.pinned (OpenSpec.ofChange Rows.progressNobodySpec) :=
  OpenClaim.holds_of_wide 10 Try.f10 rfl rfl rfl rfl rfl rfl rfl ⟨rfl, rfl, rfl, rfl, rfl⟩ rfl rfl rfl rfl rfl (by kernel_rfl) Try.func10 (by kernel_rfl)
    (of_decide_eq_true (by kernel_rfl)) (by unfold Func.isWrapper; first | (rw [if_pos (by decide +kernel)]; kernel_rfl) | (rw [if_neg (by decide +kernel)]; exact ⟨rfl, rfl⟩))
    (fun os started H enc _ => lifted os started H enc)

/-- The statement. -/
theorem proved : Rows.ProgressNobodySaid := over
#print axioms proved
end Go.Proofs.Ytibdjmmhdggpfaa.progressNobody
