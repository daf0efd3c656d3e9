/-
  For every input curfewlaw31.ProgressRises returns true and leaves its arguments as they were. Conditions: none.
  (The frame of the row began as the shell that the kit's proof-skeleton.mjs writes; the walk is typed here.)
-/
import Derived.Test.YtibdjmmhdggpfaaRows
import Derived.Test.YtibdjmmhdggpfaaGRise
import Derived.Deep.QuietTactic
import Derived.BigQuiet
import Derived.Deep.OwnRows
import Derived.WalkKit
import Derived.ProofKit
import Derived.OpenShut
import Derived.ShutString
import Derived.ChangeOld
import Derived.Below
namespace Go.Proofs.Ytibdjmmhdggpfaa.progressRises
open Go.ChangeShapes Go.WideShapes Go.ChangeAt Go.RowKit
open Go.ChangeMaps (open_string shut_string)
open Go.Maps
open Go.Proofs.YtibdjmmhdggpfaaW.PrintWords
open Go.Proofs.YtibdjmmhdggpfaaW.PrintMore
open Go.Proofs.Ytibdjmmhdggpfaa.PPollPlays
open Go.Proofs.Ytibdjmmhdggpfaa.pure
open Go.Proofs.Ytibdjmmhdggpfaa.fmap
open Go.Proofs.Ytibdjmmhdggpfaa.rows
set_option linter.unusedVariables false

theorem own : ownKnob Try.prog.godebug = none := by kernel_rfl
theorem laidOut : laidOutB Try.prog = true := by kernel_rfl

theorem info66 : (Try.prog.info? 66).map (·.size) = some 4 := by kernel_rfl
theorem info4 : (Try.prog.info? 4).map (·.size) = some 1 := by kernel_rfl
theorem line_one (y : Ln) : ∀ v ∈ [Value.int .u64 y.m, .int .u64 y.n, .int .u64 y.r, .bool y.a], v.oneCell' = true := by
  intro v hv
  simp only [List.mem_cons, List.not_mem_nil, or_false] at hv
  rcases hv with rfl | rfl | rfl | rfl <;> rfl
theorem small_wf {j : Nat} (h : j ≤ 100) : (Lit.int .i64 (j : Int)).wf = true := WalkArith.wf_i64 (by omega)
set_option maxRecDepth 100000 in
set_option maxHeartbeats 4000000 in
theorem walk_main (a0 : Option Addr) (c0 : Nat) (l : List Int) (last : Int) (a2 : Option Addr) (len2 cap2 : Nat) (w : World) (h2 : IsCls w a2 len2) (hc : l.length ≤ c0) (hl : IntC w a0 l) (hll : (l.length : Int) ≤ 40) (hw : (Lit.int .u64 last).wf = true) (hx : last ≤ 1152921504606846976) :
    Calls Try.prog 8 #[.slice a0 l.length c0, .int .u64 last, .slice a2 len2 cap2] w fun e w' => e = .returned (.bool true) ∧ Below w.heap.size w w' := by
  have HI := Lib.hid (glight_ok w a2 len2 cap2 h2)
  have HN := fun w' hb => Lib.hid (tnew_ok w' a0 c0 l (hl.below hb) hc (by omega) last hw hx)
  have hz := zero60
  have hz2 := zero67
  have hz3 := zero42
  have hu := Try.underlying55
  have hu66 := Try.underlying66
  clear hl h2
  go_enter Try.func8, Try.ntmps8
  go_wp2_with (first
    | (go_at_call 22; refine HI.out.mono ?_; rintro e w1 ⟨bb, rfl, hb1, hcl⟩; rcases bb with _ | _)
    | (go_at_call 23; refine (glives_true _).mono ?_; rintro e w3 ⟨rfl, hb3⟩)
    | (go_at_call 24; (with_reducible refine (HN _ hb1).out.mono ?_); rintro e w4 ⟨b, bm, bl, rfl, hT4, hb4⟩))
  · go_ret
    exact ⟨rfl, hb1.trans (hb3.mono hb1.size)⟩
  have HC := Lib.hid (hcl trivial)
  have HB := Lib.hid hb1
  have R0 : Inv w1 b bm bl (news (fun _ => none) l last) w4 := ⟨hT4, hb4⟩
  have hl200 := HC.out.1
  clear hcl hT4 hb4 hb1 HN HI
  go_loopw [36] (fun i wr => ∃ k : Nat, i = .int .i64 k ∧ k ≤ len2 ∧ ∃ t bl', Inv w1 b bm bl' t wr) (fun i _ => len2 - (intOf i).toNat)
  case atStart => exact ⟨0, rfl, Nat.zero_le _, _, _, R0⟩
  case round =>
    clear R0
    obtain ⟨k, rfl, hk, t, bl', R⟩ := hrel
    by_cases hlt : k < len2
    · obtain ⟨ob, oo, x, A, c, rfl, hat, hin, hx40⟩ := HC.out.2 k hlt
      have HO := Lib.hid (hat.below (HB.out.trans (R.bel.mono HB.out.size)))
      have d0 : wr.cell? ⟨ob, oo + k * 4, none⟩ = some (.int .i64 x.k) := HO.out.cell 0 _ rfl
      have d1 := HO.out.cell 1 _ rfl
      have d2 := HO.out.cell 2 _ rfl
      have d3 := HO.out.cell 3 _ rfl
      have HS0 : Sc w1 b bm bl' t wr.heap.size (wr.heap.size + 1) (wr.heap.size + 1 + 1) x A c t 0 (((wr.alloc (.cells (qc x A c).toArray 55)).alloc (.cells Z67 67)).alloc (.cells Z42 42)) := by
        have hb := alloc_below wr (.cells (qc x A c).toArray 55)
        have hs := R.bel.size
        have hwas := Was.zero (wr.alloc (.cells (qc x A c).toArray 55)) t
        refine ⟨(R.below hb).below ((alloc_below _ _).trans ((alloc_below _ _).mono (by simp))), blk_alloc (blk_alloc (heap_alloc_new _ _) _) _, by simpa using hwas, by omega, by omega⟩
      have HIN := Lib.hid hin
      clear hat hin R
      go_upto_region 11 with (fail)
      go_wp2
      generalize ((wr.alloc (.cells #[.int .i64 x.k, .int .i64 x.nd, .int .u64 x.n, .slice A x.l.length c] 55)).alloc (.cells Z67 67)).alloc (.cells Z42 42) = W2 at HS0 ⊢
      generalize wr.heap.size + 1 + 1 = bh at HS0 ⊢
      generalize wr.heap.size + 1 = bg at HS0 ⊢
      generalize wr.heap.size = bo at HS0 ⊢
      clear d0 d1 d2 d3 HO
      go_loopw [40] (fun i wq => ∃ j : Nat, i = .int .i64 j ∧ j ≤ 7 ∧ Sc w1 b bm bl' t bo bg bh x A c t j wq) (fun i _ => 7 - (intOf i).toNat)
      case atStart => exact ⟨0, rfl, Nat.zero_le _, HS0⟩
      case round =>
        clear HS0
        obtain ⟨j, rfl, hj, S⟩ := hrel
        by_cases hj7 : j < 7
        · have HL := Lib.hid (Line_ok wr w1.heap.size b bm bl' t S.inv.at_ j (small_wf (by omega)))
          have HSS := Lib.hid S
          clear S
          generalize hy : lnz t j = y at HL
          generalize hz' : (t (j : Int)).isSome = z at HL
          have HY := Lib.hid hy
          have HZ := Lib.hid hz'
          clear hy hz'
          go_wp2_with (first
            | (go_at_call 28; refine HL.out.mono ?_; rintro e w6 ⟨rfl, hb6⟩; have H6 := Lib.hid (HSS.out.below hb6); obtain ⟨cs, hc, hcs, hcr⟩ := H6.out.was.a; obtain ⟨ds, hd, hds, hdr⟩ := H6.out.was.b; have HC6 := Lib.hid hc; have HD6 := Lib.hid hd; clear hb6 hcr hdr hc hd)
            | ((refine Go.Proofs.Ytibdjmmhdggpfaa.rows.wpList_store_mid rfl 66 _ _ rfl bg (j * 4) [.int .u64 y.m, .int .u64 y.n, .int .u64 y.r, .bool y.a] ?_ ?_ 67 cs HC6.out info66 ?_ (line_one y) ?_); rfl; rfl; (rw [hcs]; simp; omega))
            | ((refine Go.Proofs.Ytibdjmmhdggpfaa.rows.wpList_store_cell rfl 4 _ _ rfl bh j (.bool z) ?_ ?_ rfl rfl 42 ds ((setRow_other _ _ _ _ (by rintro rfl; have e1 := HC6.out; rw [HD6.out] at e1; cases e1)).trans HD6.out) info4 ?_ ?_); rfl; rfl; (rw [hds]; omega)))
          go_roundw
          case rel => exact ⟨j + 1, by go_num, hj7, H6.out.put HC6.out HD6.out hj7 y HY.out z HZ.out⟩
          case measure => simp [intOf]; omega
        · obtain rfl : j = 7 := by omega
          have e0 := (blk_cell S.op 0).trans rfl
          have e1 := (blk_cell S.op 1).trans rfl
          have e2 := (blk_cell S.op 2).trans rfl
          have e3 := (blk_cell S.op 3).trans rfl
          have HD := Lib.hid (do_ok wr w1.heap.size b bm bl' t (fun _ => none) S.inv.at_ Z60 RT_zero TOk_none x A c (cl_later HIN.out HB.out S.inv) hx40)
          have HSS := Lib.hid S
          have HTO := Lib.hid S.inv.at_.ok
          clear S
          go_wp2_with (go_at_call 25; refine HD.out.mono ?_; rintro e w5 ⟨cs, bl2, rfl, hRT, hT5, hS5⟩)
          have S5 := HSS.out.step hT5 hS5
          clear hRT hT5 hS5 e0 e1 e2 e3 HD
          go_loopw [58] (fun i wq => ∃ j : Nat, i = .int .i64 j ∧ j ≤ 7 ∧ Sc w1 b bm bl2 (stepT t x) bo bg bh x A c t 7 wq) (fun i _ => 7 - (intOf i).toNat)
          case atStart => exact ⟨0, rfl, Nat.zero_le _, S5⟩
          case round =>
            clear S5
            obtain ⟨j, rfl, hj, S⟩ := hrel
            by_cases hj7 : j < 7
            · have HL := Lib.hid (Line_ok wr w1.heap.size b bm bl2 (stepT t x) S.inv.at_ j (small_wf (by omega)))
              have HSS := Lib.hid S
              have HTO2 := Lib.hid S.inv.at_.ok
              clear S
              rcases hz1 : stepT t x j with _ | y
              · have hz2 : lnz (stepT t x) j = z0 := by unfold lnz; rw [hz1]; rfl
                rw [hz1, hz2] at HL
                clear hz1 hz2
                go_upto_region 21 with (go_at_call 28; refine HL.out.mono ?_; rintro e w6 ⟨rfl, hb6⟩; have H6 := Lib.hid (HSS.out.below (hb6.trans ((alloc_below _ (.cells (lc z0) 66)).mono hb6.size))); clear hb6)
                go_quiet (fail)
                go_wp2
                go_roundw
                case rel => exact ⟨j + 1, by go_num, hj7, H6.out.below (drawn_below _ _)⟩
                case measure => simp [intOf]; omega
              · have hz2 : lnz (stepT t x) j = y := by unfold lnz; rw [hz1]; rfl
                rw [hz1, hz2] at HL
                have hy := HTO2.out.ok _ _ hz1
                have hmn : decide (y.n ≤ y.m) = false := by have := hy.mn; exact decide_eq_false (by omega)
                rcases hz3 : t j with _ | y0
                · have HZ3 := Lib.hid (show (t (j : Int)).isSome = false by rw [hz3]; rfl)
                  have HLZ := Lib.hid (show lnz t j = z0 by unfold lnz; rw [hz3]; rfl)
                  clear hz1 hz2 hz3 hy
                  go_upto_region 21 with (go_at_call 28; refine HL.out.mono ?_; rintro e w6 ⟨rfl, hb6⟩; have H6 := HSS.out.below (hb6.trans ((alloc_below _ (.cells (lc y) 66)).mono hb6.size)); have b6 := heap_alloc_new w6 (.cells (lc y) 66); clear hb6)
                  generalize w6.alloc (.cells (lc y) 66) = w7 at H6 b6 ⊢
                  generalize w6.heap.size = b7 at b6 ⊢
                  have f0 := (blk_cell b6 0).trans rfl
                  have f1 := (blk_cell b6 1).trans rfl
                  have f2 := (blk_cell b6 2).trans rfl
                  have f3 := (blk_cell b6 3).trans rfl
                  obtain ⟨cs, hc1, hcs1, hcr1⟩ := H6.was.a
                  obtain ⟨ds, hd1, hds1, hdr1⟩ := H6.was.b
                  have e1 := (blk_cell hc1 (j * 4)).trans (hcr1 j hj7).1
                  have e2 := (blk_cell hc1 (j * 4 + 2)).trans (hcr1 j hj7).2
                  have e3 := (blk_cell hd1 j).trans (hdr1 j hj7)
                  rw [HZ3.out] at e3
                  rw [HLZ.out] at e1 e2
                  have hj7i : (j : Int) < 7 := by omega
                  have HH6 := Lib.hid H6
                  clear H6 b6 hc1 hcs1 hcr1 hd1 hds1 hdr1
                  go_quiet (fail)
                  go_wp2
                  go_roundw
                  case rel => exact ⟨j + 1, by go_num, hj7, HH6.out.below (drawn_below _ _)⟩
                  case measure => simp [intOf]; omega
                · have HZ3 := Lib.hid (show (t (j : Int)).isSome = true by rw [hz3]; rfl)
                  have HLZ := Lib.hid (show lnz t j = y0 by unfold lnz; rw [hz3]; rfl)
                  obtain ⟨hu1, hu2⟩ := stepT_up t x j y0 y hz3 hz1
                  have hn1 : decide (y.m < y0.m) = false := decide_eq_false (by omega)
                  have hn2 : decide (y.r < y0.r) = false := decide_eq_false (by omega)
                  clear hz1 hz2 hz3 hy
                  go_upto_region 21 with (go_at_call 28; refine HL.out.mono ?_; rintro e w6 ⟨rfl, hb6⟩; have H6 := HSS.out.below (hb6.trans ((alloc_below _ (.cells (lc y) 66)).mono hb6.size)); have b6 := heap_alloc_new w6 (.cells (lc y) 66); clear hb6)
                  generalize w6.alloc (.cells (lc y) 66) = w7 at H6 b6 ⊢
                  generalize w6.heap.size = b7 at b6 ⊢
                  have f0 := (blk_cell b6 0).trans rfl
                  have f1 := (blk_cell b6 1).trans rfl
                  have f2 := (blk_cell b6 2).trans rfl
                  have f3 := (blk_cell b6 3).trans rfl
                  obtain ⟨cs, hc1, hcs1, hcr1⟩ := H6.was.a
                  obtain ⟨ds, hd1, hds1, hdr1⟩ := H6.was.b
                  have e1 := (blk_cell hc1 (j * 4)).trans (hcr1 j hj7).1
                  have e2 := (blk_cell hc1 (j * 4 + 2)).trans (hcr1 j hj7).2
                  have e3 := (blk_cell hd1 j).trans (hdr1 j hj7)
                  rw [HZ3.out] at e3
                  rw [HLZ.out] at e1 e2
                  have hj7i : (j : Int) < 7 := by omega
                  have HH6 := Lib.hid H6
                  clear H6 b6 hc1 hcs1 hcr1 hd1 hds1 hdr1
                  go_quiet (fail)
                  go_wp2
                  go_roundw
                  case rel => exact ⟨j + 1, by go_num, hj7, HH6.out.below (drawn_below _ _)⟩
                  case measure => simp [intOf]; omega
            · obtain rfl : j = 7 := by omega
              have HV := Lib.hid S.inv
              clear S
              go_wp2
              go_roundw
              case rel => exact ⟨k + 1, by go_num, hlt, _, _, HV.out⟩
              case measure => simp [intOf]; omega
    · have HR := Lib.hid R
      clear R
      go_wp2_with (go_at_call 23; refine (glives_true _).mono ?_; rintro e w6 ⟨rfl, hb6⟩)
      go_ret
      have b3 := HB.out.trans (HR.out.bel.mono HB.out.size)
      exact ⟨rfl, b3.trans (hb6.mono b3.size)⟩

set_option maxRecDepth 100000 in
theorem walk_lives (a0 : Option Addr) (c0 : Nat) (l : List Int) (last : Int) (a2 : Option Addr) (len2 cap2 : Nat) (w : World) (h : 40 < (l.length : Int) ∨ 1152921504606846976 < last) :
    Calls Try.prog 8 #[.slice a0 l.length c0, .int .u64 last, .slice a2 len2 cap2] w fun e w' => e = .returned (.bool true) ∧ Below w.heap.size w w' := by
  by_cases c1 : 40 < (l.length : Int)
  · clear h
    go_enter Try.func8, Try.ntmps8
    go_wp2_with (go_at_call 23; refine (glives_true _).mono ?_; rintro e w' ⟨rfl, hn⟩)
    go_ret
    exact ⟨rfl, hn⟩
  · have c2 : 1152921504606846976 < last := h.resolve_left c1
    clear h
    go_enter Try.func8, Try.ntmps8
    go_wp2_with (go_at_call 23; refine (glives_true _).mono ?_; rintro e w' ⟨rfl, hn⟩)
    go_ret
    exact ⟨rfl, hn⟩

theorem walk (a0 : Option Addr) (c0 : Nat) (l : List Int) (last : Int) (a2 : Option Addr) (len2 cap2 : Nat) (w : World) (hc : l.length ≤ c0) (hl : IntC w a0 l) (hm : l.length ≤ 9223372036854775807) (hw : (Lit.int .u64 last).wf = true) (h2 : IsCls w a2 len2) :
    Calls Try.prog 8 #[.slice a0 l.length c0, .int .u64 last, .slice a2 len2 cap2] w fun e w' => e = .returned (.bool true) ∧ Below w.heap.size w w' := by
  by_cases h : 40 < (l.length : Int) ∨ 1152921504606846976 < last
  · exact walk_lives a0 c0 l last a2 len2 cap2 w h
  · exact walk_main a0 c0 l last a2 len2 cap2 w h2 hc hl (by omega) hw (by omega)

/-! ### The row's step -/
set_option maxRecDepth 100000 in
theorem lifted (os : Os) (started : os.Started) (H : Type) (enc : TypeId × Value → H) :
    ReturnsInHanded {} Try.checked os 8 .any (Rows.progressRisesSpec.pre6 enc Try.prog Try.f8 Rows.progressRisesRow.domain false) (Rows.progressRisesSpec.post enc Try.prog Try.f8 false true false false) := by
  refine returnsInHanded_of_change (C := Try.checked) own started (by kernel_rfl) Try.func8
    (ChangeSpec.witness6 (enc := enc) (C := Try.checked) false ⟨#[], #[.slice none 0 0, .int .u64 0, .slice none 0 0], []⟩ 8 (by kernel_rfl) (by kernel_rfl) (by kernel_rfl) (by kernel_rfl)) ?_
  intro W base args ds gs before hval0 hW hcnd _
  have hval : ∀ (j : Nat) t v, Try.f8.params[j]? = some t → args[j]? = some v → Value.okWide Try.prog W .any base t v := hval0
  have hW' := hW
  obtain ⟨p, q, hA0, hV, rfl, hfz, hnd⟩ := hW
  have hA : DataW.TrodAll enc Try.prog W 0 (fun _ => true) true Try.f8.params.toList args.toList ds p := hA0
  rw [Try.params8] at hA hval
  obtain ⟨v0, vs0, d0, ds0, p0, q0, hargs, rfl, rfl, h0, r0⟩ := trodAll_cons hA
  obtain ⟨v1, vs1, d1, ds1, p1, q1, rfl, rfl, rfl, h1, r1⟩ := trodAll_cons r0
  obtain ⟨v2, vs2, d2, ds2, p2, q2, rfl, rfl, rfl, h2, r2⟩ := trodAll_cons r1
  obtain ⟨rfl, rfl, rfl⟩ := trodAll_nil r2
  obtain rfl : args = #[v0, v1, v2] := by cases args; simp_all
  obtain ⟨rfl, rfl⟩ := trodVars_none hV
  obtain ⟨a0, len0, cap0, rfl⟩ := okWide_slice Try.underlying22 (hval 0 22 v0 rfl rfl)
  have k0 := h0
  have lt0 : ∀ x ∈ p0, x.block < W.heap.size := by obtain ⟨m, hm⟩ := k0; exact DataW.trod_lt m _ _ _ hm
  obtain ⟨z0, rfl, hc0, hz0, hm0⟩ := (show ∃ l : List Int, l.length = len0 ∧ l.length ≤ cap0 ∧ IntC W a0 l ∧ l.length ≤ 9223372036854775807 by obtain ⟨fuel, hf⟩ := h0; exact ints_in hf)
  obtain ⟨a1, rfl, rfl, rfl, w1⟩ := open_int Try.underlying50 (hval 1 50 v1 rfl rfl) h1
  obtain ⟨a2, len2, cap2, rfl⟩ := okWide_slice Try.underlying49 (hval 2 49 v2 rfl rfl)
  have k2 := h2
  have lt2 : ∀ x ∈ p2, x.block < W.heap.size := by obtain ⟨m, hm⟩ := k2; exact DataW.trod_lt m _ _ _ hm
  have hops2 : IsCls W a2 len2 := by obtain ⟨fuel, hf⟩ := h2; exact isCls hf
  clear hA0 hval0
  refine (walk a0 cap0 z0 a1 a2 len2 cap2 W hc0 hz0 hm0 w1 hops2).mono fun e W' ⟨he, bel⟩ => ?_
  subst he
  exact ⟨_, rfl, _, _, _, [], _, [], hW', trodAll_mk1 (shut_bool Try.underlying4 _), (trodAll_cons_mk (Below.trod laidOut (by kernel_rfl) (of_decide_eq_true (by kernel_rfl)) k0 bel lt0) (trodAll_cons_mk (shut_int Try.underlying50 w1) (trodAll_cons_mk (Below.trod laidOut (by kernel_rfl) (of_decide_eq_true (by kernel_rfl)) k2 bel lt2) trodAll_mk0))), rfl, bel.frame _, fun h => by cases h⟩

theorem over : Rows.progressRisesRow.holds Try.pinned (OpenSpec.ofChange Rows.progressRisesSpec) :=
  OpenClaim.holds_of_wide 8 Try.f8 rfl rfl rfl rfl rfl rfl rfl ⟨rfl, rfl, rfl, rfl, rfl⟩ rfl rfl rfl rfl rfl (by kernel_rfl) Try.func8 (by kernel_rfl)
    (of_decide_eq_true (by kernel_rfl)) (by unfold Func.isWrapper; first | (rw [if_pos (by decide +kernel)]; kernel_rfl) | (rw [if_neg (by decide +kernel)]; exact ⟨rfl, rfl⟩))
    (fun os started H enc _ => lifted os started H enc)

/-- The statement. -/
theorem proved : Rows.ProgressRisesSaid := over
#print axioms proved
end Go.Proofs.Ytibdjmmhdggpfaa.progressRises
