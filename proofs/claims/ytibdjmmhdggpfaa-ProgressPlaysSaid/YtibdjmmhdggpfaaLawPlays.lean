/-
  For every input curfewlaw31.ProgressPlays returns true and leaves its arguments as they were. Conditions: none.
  (The frame of the row began as the shell that the kit's proof-skeleton.mjs writes; the walk is typed here.)
-/
import Derived.Test.YtibdjmmhdggpfaaRows
import Derived.Test.YtibdjmmhdggpfaaGPlays
import Derived.Deep.OwnRows
import Derived.WalkKit
import Derived.ProofKit
import Derived.OpenShut
import Derived.ShutString
import Derived.ChangeOld
import Derived.Below
namespace Go.Proofs.Ytibdjmmhdggpfaa.progressPlays
open Go.ChangeShapes Go.WideShapes Go.ChangeAt Go.RowKit
open Go.ChangeMaps (open_string shut_string)
open Go.Proofs.YtibdjmmhdggpfaaW.PrintLast
open Go.Maps
open Go.Proofs.YtibdjmmhdggpfaaW.PrintWords
open Go.Proofs.YtibdjmmhdggpfaaW.PrintMore
open Go.Proofs.Ytibdjmmhdggpfaa.PPollPlays
open Go.Proofs.Ytibdjmmhdggpfaa.pure
open Go.Proofs.Ytibdjmmhdggpfaa.fmap
set_option linter.unusedVariables false

theorem own : ownKnob Try.prog.godebug = none := by kernel_rfl
theorem laidOut : laidOutB Try.prog = true := by kernel_rfl

set_option maxRecDepth 100000 in
set_option maxHeartbeats 4000000 in
theorem walk_main (a0 : Option Addr) (c0 : Nat) (l : List Int) (last : Int) (a2 : Option Addr) (len2 cap2 : Nat) (a3 : Option Addr) (c3 : Nat) (ml : List Int) (self own : Int) (w : World) (h2 : IsCls w a2 len2) (hc : l.length ≤ c0) (hl : IntC w a0 l) (hll : (l.length : Int) ≤ 40) (hc3 : ml.length ≤ c3) (hm3 : IntC w a3 ml) (hlm : (ml.length : Int) ≤ 40) (hw : (Lit.int .u64 last).wf = true) (hwo : (Lit.int .u64 own).wf = true) (hx : last ≤ 1152921504606846976) :
    Calls Try.prog 9 #[.slice a0 l.length c0, .int .u64 last, .slice a2 len2 cap2, .slice a3 ml.length c3, .int .i64 self, .int .u64 own] w fun e w' => e = .returned (.bool true) ∧ Below w.heap.size w w' := by
  have ho0 : 0 ≤ own := (wf_u64 hwo).1
  have hl3 : ml.length ≤ 100 := by omega
  have HI := Lib.hid (glight_ok w a2 len2 cap2 h2)
  have HN := fun w' hb => Lib.hid (tnew_ok w' a0 c0 l (hl.below hb) hc (by omega) last hw hx)
  have HS := fun w' hb => Lib.hid (rset_ok w' Z60 (fun _ => none) RT_zero a0 c0 l (hl.below hb) hc (by omega) last hw)
  have hdx : decide (last ≤ IX) = true := decide_eq_true hx
  have hse : sett (fun _ => none) l last = news (fun _ => none) l last := by unfold sett; rw [if_pos (show last ≤ IX from hx)]
  rw [hdx, hse] at HS
  have HM0 := Lib.hid hm3
  have hz := zero60
  have hu := Try.underlying55
  have hiz := info60 Z60_size
  clear hl h2 hm3 hdx hse hwo
  go_enter Try.func9, Try.ntmps9
  go_upto_region 8 with (first
    | (go_at_call 22; refine HI.out.mono ?_; rintro e w1 ⟨bb, rfl, hb1, hcl⟩; rcases bb with _ | _)
    | (go_at_call 23; refine (glives_true _).mono ?_; rintro e w3 ⟨rfl, hb3⟩)
    | (go_at_call 24; (with_reducible refine (HN _ hb1).out.mono ?_); rintro e w4 ⟨b, bm, bl, rfl, hT4, hb4⟩; have HB4 := Lib.hid (hb1.trans (hb4.mono hb1.size)); have HP0 := Lib.hid (show PR w1 b bm bl (news (fun _ => none) l last) w4.heap.size Z60 (w4.alloc (.cells Z60 60)) from ⟨⟨hT4.below (alloc_below _ _), hb4.trans ((alloc_below _ _).mono hb4.size)⟩, heap_alloc_new _ _, hb4.size⟩); have HB5 := Lib.hid (HB4.out.trans ((alloc_below w4 (.cells Z60 60)).mono HB4.out.size)))
    | ((with_reducible refine wpList_load_row rfl 60 _ rfl w4.heap.size ?_ 60 Z60 (0, 0) _ HP0.out.row Try.underlying60 ?_ hiz ?_); rfl; rfl)
    | (go_at_call 29; (with_reducible refine (HS _ HB5.out).out.mono ?_); rintro e w5 ⟨cs1, rfl, hR1, hb5⟩; have HP5 := Lib.hid (HP0.out.below hb5); have HR1 := Lib.hid hR1; have hi1 := info60 hR1.size; clear hb5 hR1)
    | ((with_reducible refine wpList_store_row rfl 60 _ _ rfl w4.heap.size cs1 ?_ ?_ 60 Z60 HP5.out.row hi1 ?_ HR1.out.one ?_); rfl; rfl; (rw [Z60_size, HR1.out.size])))
  · go_wp2
    go_ret
    exact ⟨rfl, hb1.trans (hb3.mono hb1.size)⟩
  have HC := Lib.hid (hcl trivial)
  have HB := Lib.hid hb1
  have HPP := Lib.hid (HP5.out.put cs1)
  generalize w5.setRow w4.heap.size cs1 = W6 at HPP ⊢
  generalize w4.heap.size = g at HPP ⊢
  have hl200 := HC.out.1
  have HLK := Lib.hid (like_ok W6 _ b bm bl _ HPP.out.inv.at_ cs1 HR1.out)
  have HM := fun w' (hb : Below w1.heap.size w1 w') => Lib.hid (HM0.out.below (HB.out.trans (hb.mono HB.out.size)))
  clear hcl hT4 hb4 hb1 HN HI HS HP0 HP5 HB4 HB5 hi1 hiz
  have hi1 := info60 HR1.out.size
  go_wp2_with (first
    | ((with_reducible refine wpList_load_row_g ?_ 60 _ rfl g ?_ 60 cs1 (0, 0) _ HPP.out.row Try.underlying60 ?_ hi1 ?_); rfl; rfl; rfl)
    | (go_at_call 30; refine HLK.out.mono ?_; rintro e w7 ⟨rfl, hb7⟩; have HP7 := Lib.hid (HPP.out.below hb7); clear hb7))
  have R0 := HP7.out
  clear HP7 HLK HPP
  have HR1' := HR1
  go_loopw [61] (fun i wr => ∃ k : Nat, i = .int .i64 k ∧ k ≤ len2 ∧ ∃ t bl' cs, PR w1 b bm bl' t g cs wr ∧ RT cs t) (fun i _ => len2 - (intOf i).toNat)
  case atStart => exact ⟨0, rfl, Nat.zero_le _, _, _, _, R0, HR1.out⟩
  case round =>
    clear R0
    obtain ⟨k, rfl, hk, t, bl', cs, Q, hR⟩ := hrel
    by_cases hlt : k < len2
    · obtain ⟨ob, oo, x, A, c, rfl, hat, hin, hx40⟩ := HC.out.2 k hlt
      have HO := Lib.hid (hat.below (HB.out.trans (Q.inv.bel.mono HB.out.size)))
      have d0 : wr.cell? ⟨ob, oo + k * 4, none⟩ = some (.int .i64 x.k) := HO.out.cell 0 _ rfl
      have d1 := HO.out.cell 1 _ rfl
      have d2 := HO.out.cell 2 _ rfl
      have d3 := HO.out.cell 3 _ rfl
      have HQ := Lib.hid (Q.below (alloc_below wr (.cells (qc x A c).toArray 55)))
      have HD := Lib.hid (do_ok _ w1.heap.size b bm bl' t t HQ.out.inv.at_ cs hR HQ.out.inv.at_.ok x A c (cl_later hin HB.out HQ.out.inv) hx40)
      have HRR := Lib.hid hR
      have hics := info60 hR.size
      clear hat hin Q hR
      go_upto_region 15 with (first
        | ((with_reducible refine wpList_load_row rfl 60 _ rfl g ?_ 60 cs (0, 0) _ ?_ Try.underlying60 ?_ hics ?_); rfl; exact HQ.out.row; rfl)
        | (go_at_call 25; refine HD.out.mono ?_; rintro e w5' ⟨cs2, bl2, rfl, hRT, hT5, hS5⟩; have HQ5 := Lib.hid (HQ.out.step hT5 hS5); have HR2 := Lib.hid hRT; have hi2 := info60 hRT.size; have HE := Lib.hid (beq_self_eq_true (stepB t x)); rw [HE.out]; clear hRT hT5 hS5)
        | ((with_reducible refine wpList_store_row rfl 60 _ _ rfl w5'.heap.size cs2 ?_ ?_ 60 Z60 (heap_alloc_new _ _) hi2 ?_ HR2.out.one ?_); rfl; rfl; (rw [Z60_size, HR2.out.size]))
        | ((with_reducible refine wpList_load_row rfl 60 _ rfl w5'.heap.size ?_ 60 cs2 (0, 0) _ (setRow_heap _ _ _ _ _ _ (heap_alloc_new _ _)) Try.underlying60 ?_ hi2 ?_); rfl; rfl)
        | ((with_reducible refine wpList_store_row rfl 60 _ _ rfl g cs2 ?_ ?_ 60 cs (HQ5.out.new Z60 cs2).row hi2 ?_ HR2.out.one ?_); rfl; rfl; (rw [HRR.out.size, HR2.out.size])))
      have PA := (HQ5.out.new Z60 cs2).put cs2
      have HPD := Lib.hid (PA.below (show Below _ _ (((w5'.alloc (.cells Z60 60)).setRow w5'.heap.size cs2).setRow g cs2).drew from ⟨rfl, rfl, rfl, Nat.le_refl _, fun _ _ => rfl⟩))
      clear PA d0 d1 d2 d3 HD HO
      refine start_ (n := 34) (S := RowA g cs2) (ds := []) #[false, false, false, false, false, false, false, false, false, false, false, false, false, false, false, false, false, false, false, false, false, false, false, false, false, false, false, false, false, false, false, false, false, false] (by kernel_rfl) rfl rfl ⟨HPD.out.row⟩ (fun hHeld => ?_)
      have P0 := HPD
      generalize (((w5'.alloc (.cells Z60 60)).setRow w5'.heap.size cs2).setRow g cs2).drew = V0 at hHeld P0 ⊢
      clear HPD HQ HQ5
      refine pure_ (i := 0) (N := some 73) (v := .bool true) (a' := ?_) #[true, false, false, false, false, false, false, false, false, false, false, false, false, false, false, false, false, false, false, false, false, false, false, false, false, false, false, false, false, false, false, false, false, false] rfl rfl (by kernel_rfl) (fun _ _ _ h => h) (Or.inl ⟨rfl, fun w' => by kernel_rfl⟩) ?_ ?_
      rotate_left
      · simp only [Act.put, List.setIfInBounds_toArray, List.set_cons_zero, List.set_cons_succ]
        rfl
      refine pure_ (i := 1) (N := some 74) (v := .bool false) (a' := ?_) #[true, true, false, false, false, false, false, false, false, false, false, false, false, false, false, false, false, false, false, false, false, false, false, false, false, false, false, false, false, false, false, false, false, false] rfl rfl (by kernel_rfl) (fun _ _ _ h => h) (Or.inl ⟨rfl, fun w' => by kernel_rfl⟩) ?_ ?_
      rotate_left
      · simp only [Act.put, List.setIfInBounds_toArray, List.set_cons_zero, List.set_cons_succ]
        rfl
      refine pure_ (i := 2) (N := some 75) (v := .bool false) (a' := ?_) #[true, true, true, false, false, false, false, false, false, false, false, false, false, false, false, false, false, false, false, false, false, false, false, false, false, false, false, false, false, false, false, false, false, false] rfl rfl (by kernel_rfl) (fun _ _ _ h => h) (Or.inl ⟨rfl, fun w' => by kernel_rfl⟩) ?_ ?_
      rotate_left
      · simp only [Act.put, List.setIfInBounds_toArray, List.set_cons_zero, List.set_cons_succ]
        rfl
      refine pure_ (i := 3) (N := some 76) (v := .pointer (some ⟨b, 0, none⟩)) (a' := ?_) #[true, true, true, true, false, false, false, false, false, false, false, false, false, false, false, false, false, false, false, false, false, false, false, false, false, false, false, false, false, false, false, false, false, false] rfl rfl (by kernel_rfl) (fun _ _ _ h => h) (Or.inl ⟨rfl, fun w' => by kernel_rfl⟩) ?_ ?_
      rotate_left
      · simp only [Act.put, List.setIfInBounds_toArray, List.set_cons_zero, List.set_cons_succ]
        rfl
      refine take_ (i := 4) (N := some 77) (v := .agg cs2) (a' := ?_) #[true, true, true, true, true, false, false, false, false, false, false, false, false, false, false, false, false, false, false, false, false, false, false, false, false, false, false, false, false, false, false, false, false, false] rfl rfl (by kernel_rfl) (fun _ _ _ h => h) (Or.inl ⟨rfl, fun w' h => h.exec hi2 rfl rfl⟩) hHeld ?_ ?_
      rotate_left
      · simp only [Act.put, List.setIfInBounds_toArray, List.set_cons_zero, List.set_cons_succ]
        rfl
      refine one_ (i := 5) (N := some 78) #[true, true, true, true, true, true, false, false, false, false, false, false, false, false, false, false, false, false, false, false, false, false, false, false, false, false, false, false, false, false, false, false, false, false] rfl rfl (by kernel_rfl) (by simp) (fun K hK => ?_)
      refine goes_ Try.func30 (by kernel_rfl) rfl #[.pointer (some ⟨b, 0, none⟩), .agg cs2] (by rfl) rfl rfl (by (try simp only [List.map_toArray, List.map_cons, List.map_nil]); first | done | rfl) ?_
      refine (like_ok V0 _ b bm bl2 (stepT t x) P0.out.inv.at_ cs2 HR2.out).mono ?_
      rintro e V1 ⟨rfl, hb1⟩
      refine ⟨_, rfl, hK.out _ _ ⟨blk_below hHeld.a hb1⟩ (fun hH1 => ?_)⟩
      clear hK K
      have P1 := Lib.hid (P0.out.below hb1)
      refine norm_ (a' := ?_) ?_ ?_
      rotate_left
      · simp only [Act.put, List.setIfInBounds_toArray, List.set_cons_zero, List.set_cons_succ]
        rfl
      refine pure_ (i := 6) (N := some 79) (v := .bool false) (a' := ?_) #[true, true, true, true, true, true, true, false, false, false, false, false, false, false, false, false, false, false, false, false, false, false, false, false, false, false, false, false, false, false, false, false, false, false] rfl rfl (by kernel_rfl) (fun _ _ _ h => h) (Or.inl ⟨rfl, fun w' => by kernel_rfl⟩) ?_ ?_
      rotate_left
      · simp only [Act.put, List.setIfInBounds_toArray, List.set_cons_zero, List.set_cons_succ]
        rfl
      refine pure_ (i := 7) (N := some 80) (v := .bool false) (a' := ?_) #[true, true, true, true, true, true, true, true, false, false, false, false, false, false, false, false, false, false, false, false, false, false, false, false, false, false, false, false, false, false, false, false, false, false] rfl rfl (by kernel_rfl) (fun _ _ _ h => h) (Or.inl ⟨rfl, fun w' => by kernel_rfl⟩) ?_ ?_
      rotate_left
      · simp only [Act.put, List.setIfInBounds_toArray, List.set_cons_zero, List.set_cons_succ]
        rfl
      refine pure_ (i := 8) (N := some 81) (v := .bool false) (a' := ?_) #[true, true, true, true, true, true, true, true, true, false, false, false, false, false, false, false, false, false, false, false, false, false, false, false, false, false, false, false, false, false, false, false, false, false] rfl rfl (by kernel_rfl) (fun _ _ _ h => h) (Or.inl ⟨rfl, fun w' => by kernel_rfl⟩) ?_ ?_
      rotate_left
      · simp only [Act.put, List.setIfInBounds_toArray, List.set_cons_zero, List.set_cons_succ]
        rfl
      refine pure_ (i := 9) (N := some 82) (v := .pointer (some ⟨b, 0, none⟩)) (a' := ?_) #[true, true, true, true, true, true, true, true, true, true, false, false, false, false, false, false, false, false, false, false, false, false, false, false, false, false, false, false, false, false, false, false, false, false] rfl rfl (by kernel_rfl) (fun _ _ _ h => h) (Or.inl ⟨rfl, fun w' => by kernel_rfl⟩) ?_ ?_
      rotate_left
      · simp only [Act.put, List.setIfInBounds_toArray, List.set_cons_zero, List.set_cons_succ]
        rfl
      refine pure_ (i := 10) (N := some 83) (v := .slice a3 ml.length c3) (a' := ?_) #[true, true, true, true, true, true, true, true, true, true, true, false, false, false, false, false, false, false, false, false, false, false, false, false, false, false, false, false, false, false, false, false, false, false] rfl rfl (by kernel_rfl) (fun _ _ _ h => h) (Or.inl ⟨rfl, fun w' => by kernel_rfl⟩) ?_ ?_
      rotate_left
      · simp only [Act.put, List.setIfInBounds_toArray, List.set_cons_zero, List.set_cons_succ]
        rfl
      refine pure_ (i := 11) (N := some 84) (v := .int .i64 self) (a' := ?_) #[true, true, true, true, true, true, true, true, true, true, true, true, false, false, false, false, false, false, false, false, false, false, false, false, false, false, false, false, false, false, false, false, false, false] rfl rfl (by kernel_rfl) (fun _ _ _ h => h) (Or.inl ⟨rfl, fun w' => by kernel_rfl⟩) ?_ ?_
      rotate_left
      · simp only [Act.put, List.setIfInBounds_toArray, List.set_cons_zero, List.set_cons_succ]
        rfl
      refine pure_ (i := 12) (N := some 85) (v := .int .u64 own) (a' := ?_) #[true, true, true, true, true, true, true, true, true, true, true, true, true, false, false, false, false, false, false, false, false, false, false, false, false, false, false, false, false, false, false, false, false, false] rfl rfl (by kernel_rfl) (fun _ _ _ h => h) (Or.inl ⟨rfl, fun w' => by kernel_rfl⟩) ?_ ?_
      rotate_left
      · simp only [Act.put, List.setIfInBounds_toArray, List.set_cons_zero, List.set_cons_succ]
        rfl
      refine pure_ (i := 15) (N := some 88) (v := .slice a3 ml.length c3) (a' := ?_) #[true, true, true, true, true, true, true, true, true, true, true, true, true, false, false, true, false, false, false, false, false, false, false, false, false, false, false, false, false, false, false, false, false, false] rfl rfl (by kernel_rfl) (fun _ _ _ h => h) (Or.inl ⟨rfl, fun w' => by kernel_rfl⟩) ?_ ?_
      rotate_left
      · simp only [Act.put, List.setIfInBounds_toArray, List.set_cons_zero, List.set_cons_succ]
        rfl
      refine pure_ (i := 16) (N := some 89) (v := .int .i64 self) (a' := ?_) #[true, true, true, true, true, true, true, true, true, true, true, true, true, false, false, true, true, false, false, false, false, false, false, false, false, false, false, false, false, false, false, false, false, false] rfl rfl (by kernel_rfl) (fun _ _ _ h => h) (Or.inl ⟨rfl, fun w' => by kernel_rfl⟩) ?_ ?_
      rotate_left
      · simp only [Act.put, List.setIfInBounds_toArray, List.set_cons_zero, List.set_cons_succ]
        rfl
      refine pure_ (i := 17) (N := some 90) (v := .int .u64 own) (a' := ?_) #[true, true, true, true, true, true, true, true, true, true, true, true, true, false, false, true, true, true, false, false, false, false, false, false, false, false, false, false, false, false, false, false, false, false] rfl rfl (by kernel_rfl) (fun _ _ _ h => h) (Or.inl ⟨rfl, fun w' => by kernel_rfl⟩) ?_ ?_
      rotate_left
      · simp only [Act.put, List.setIfInBounds_toArray, List.set_cons_zero, List.set_cons_succ]
        rfl
      refine take_ (i := 14) (N := some 87) (v := .agg cs2) (a' := ?_) #[true, true, true, true, true, true, true, true, true, true, true, true, true, false, true, true, true, true, false, false, false, false, false, false, false, false, false, false, false, false, false, false, false, false] rfl rfl (by kernel_rfl) (fun _ _ _ h => h) (Or.inl ⟨rfl, fun w' h => h.exec hi2 rfl rfl⟩) hH1 ?_ ?_
      rotate_left
      · simp only [Act.put, List.setIfInBounds_toArray, List.set_cons_zero, List.set_cons_succ]
        rfl
      refine one_ (i := 13) (N := some 86) #[true, true, true, true, true, true, true, true, true, true, true, true, true, true, true, true, true, true, false, false, false, false, false, false, false, false, false, false, false, false, false, false, false, false] rfl rfl (by kernel_rfl) (by simp) (fun K hK => ?_)
      refine goes_ Try.func26 (by kernel_rfl) rfl #[.pointer (some ⟨b, 0, none⟩), .slice a3 ml.length c3, .int .i64 self, .int .u64 own] (by rfl) rfl rfl (by (try simp only [List.map_toArray, List.map_cons, List.map_nil]); first | done | rfl) ?_
      refine (a1 V1 _ (stepT t x) P1.out.inv.at_.lines a3 c3 ml (HM V1 P1.out.inv.bel).out hc3 hl3 self own).mono ?_
      rintro e V2 ⟨v1, rfl, hv1, hb2⟩
      refine ⟨_, rfl, hK.out _ _ ⟨blk_below hH1.a hb2⟩ (fun hH2 => ?_)⟩
      clear hK K
      have P2 := Lib.hid (P1.out.below hb2)
      refine norm_ (a' := ?_) ?_ ?_
      rotate_left
      · simp only [Act.put, List.setIfInBounds_toArray, List.set_cons_zero, List.set_cons_succ]
        rfl
      refine one_ (i := 18) (N := some 91) #[true, true, true, true, true, true, true, true, true, true, true, true, true, true, true, true, true, true, true, false, false, false, false, false, false, false, false, false, false, false, false, false, false, false] rfl rfl (by kernel_rfl) (by simp) (fun K hK => ?_)
      refine goes_ Try.func31 (by kernel_rfl) rfl #[.agg cs2, .slice a3 ml.length c3, .int .i64 self, .int .u64 own] (by rfl) rfl rfl (by (try simp only [List.map_toArray, List.map_cons, List.map_nil]); first | done | rfl) ?_
      refine (d1 V2 cs2 (stepT t x) HR2.out a3 c3 ml (HM V2 P2.out.inv.bel).out hc3 self own).mono ?_
      rintro e V3 ⟨r1, rfl, hr1, hb3⟩
      refine ⟨_, rfl, hK.out _ _ ⟨blk_below hH2.a hb3⟩ (fun hH3 => ?_)⟩
      clear hK K
      have P3 := Lib.hid (P2.out.below hb3)
      obtain rfl := says_same hv1 hr1 (vals_len _ _ _ _ _) (vals_m0 P3.out.inv.at_.ok ho0 _)
      clear hv1 hr1
      refine norm_ (a' := ?_) ?_ ?_
      rotate_left
      · simp only [Act.put, List.setIfInBounds_toArray, List.set_cons_zero, List.set_cons_succ]
        rfl
      refine pure_ (i := 19) (N := some 92) (v := .bool false) (a' := ?_) #[true, true, true, true, true, true, true, true, true, true, true, true, true, true, true, true, true, true, true, true, false, false, false, false, false, false, false, false, false, false, false, false, false, false] rfl rfl (by kernel_rfl) (fun _ _ _ h => h) (Or.inl ⟨rfl, fun w' => exec_neq50 rfl rfl rfl w'⟩) ?_ ?_
      rotate_left
      · simp only [Act.put, List.setIfInBounds_toArray, List.set_cons_zero, List.set_cons_succ]
        rfl
      refine pure_ (i := 20) (N := some 93) (v := .bool false) (a' := ?_) #[true, true, true, true, true, true, true, true, true, true, true, true, true, true, true, true, true, true, true, true, true, false, false, false, false, false, false, false, false, false, false, false, false, false] rfl rfl (by kernel_rfl) (fun _ _ _ h => h) (Or.inl ⟨rfl, fun w' => by kernel_rfl⟩) ?_ ?_
      rotate_left
      · simp only [Act.put, List.setIfInBounds_toArray, List.set_cons_zero, List.set_cons_succ]
        rfl
      refine pure_ (i := 21) (N := some 94) (v := .bool false) (a' := ?_) #[true, true, true, true, true, true, true, true, true, true, true, true, true, true, true, true, true, true, true, true, true, true, false, false, false, false, false, false, false, false, false, false, false, false] rfl rfl (by kernel_rfl) (fun _ _ _ h => h) (Or.inl ⟨rfl, fun w' => by kernel_rfl⟩) ?_ ?_
      rotate_left
      · simp only [Act.put, List.setIfInBounds_toArray, List.set_cons_zero, List.set_cons_succ]
        rfl
      refine pure_ (i := 22) (N := some 95) (v := .pointer (some ⟨b, 0, none⟩)) (a' := ?_) #[true, true, true, true, true, true, true, true, true, true, true, true, true, true, true, true, true, true, true, true, true, true, true, false, false, false, false, false, false, false, false, false, false, false] rfl rfl (by kernel_rfl) (fun _ _ _ h => h) (Or.inl ⟨rfl, fun w' => by kernel_rfl⟩) ?_ ?_
      rotate_left
      · simp only [Act.put, List.setIfInBounds_toArray, List.set_cons_zero, List.set_cons_succ]
        rfl
      refine pure_ (i := 23) (N := some 96) (v := .slice a3 ml.length c3) (a' := ?_) #[true, true, true, true, true, true, true, true, true, true, true, true, true, true, true, true, true, true, true, true, true, true, true, true, false, false, false, false, false, false, false, false, false, false] rfl rfl (by kernel_rfl) (fun _ _ _ h => h) (Or.inl ⟨rfl, fun w' => by kernel_rfl⟩) ?_ ?_
      rotate_left
      · simp only [Act.put, List.setIfInBounds_toArray, List.set_cons_zero, List.set_cons_succ]
        rfl
      refine pure_ (i := 24) (N := some 97) (v := .int .i64 self) (a' := ?_) #[true, true, true, true, true, true, true, true, true, true, true, true, true, true, true, true, true, true, true, true, true, true, true, true, true, false, false, false, false, false, false, false, false, false] rfl rfl (by kernel_rfl) (fun _ _ _ h => h) (Or.inl ⟨rfl, fun w' => by kernel_rfl⟩) ?_ ?_
      rotate_left
      · simp only [Act.put, List.setIfInBounds_toArray, List.set_cons_zero, List.set_cons_succ]
        rfl
      refine pure_ (i := 25) (N := some 98) (v := .int .u64 own) (a' := ?_) #[true, true, true, true, true, true, true, true, true, true, true, true, true, true, true, true, true, true, true, true, true, true, true, true, true, true, false, false, false, false, false, false, false, false] rfl rfl (by kernel_rfl) (fun _ _ _ h => h) (Or.inl ⟨rfl, fun w' => by kernel_rfl⟩) ?_ ?_
      rotate_left
      · simp only [Act.put, List.setIfInBounds_toArray, List.set_cons_zero, List.set_cons_succ]
        rfl
      refine pure_ (i := 28) (N := some 101) (v := .slice a3 ml.length c3) (a' := ?_) #[true, true, true, true, true, true, true, true, true, true, true, true, true, true, true, true, true, true, true, true, true, true, true, true, true, true, false, false, true, false, false, false, false, false] rfl rfl (by kernel_rfl) (fun _ _ _ h => h) (Or.inl ⟨rfl, fun w' => by kernel_rfl⟩) ?_ ?_
      rotate_left
      · simp only [Act.put, List.setIfInBounds_toArray, List.set_cons_zero, List.set_cons_succ]
        rfl
      refine pure_ (i := 29) (N := some 102) (v := .int .i64 self) (a' := ?_) #[true, true, true, true, true, true, true, true, true, true, true, true, true, true, true, true, true, true, true, true, true, true, true, true, true, true, false, false, true, true, false, false, false, false] rfl rfl (by kernel_rfl) (fun _ _ _ h => h) (Or.inl ⟨rfl, fun w' => by kernel_rfl⟩) ?_ ?_
      rotate_left
      · simp only [Act.put, List.setIfInBounds_toArray, List.set_cons_zero, List.set_cons_succ]
        rfl
      refine pure_ (i := 30) (N := some 103) (v := .int .u64 own) (a' := ?_) #[true, true, true, true, true, true, true, true, true, true, true, true, true, true, true, true, true, true, true, true, true, true, true, true, true, true, false, false, true, true, true, false, false, false] rfl rfl (by kernel_rfl) (fun _ _ _ h => h) (Or.inl ⟨rfl, fun w' => by kernel_rfl⟩) ?_ ?_
      rotate_left
      · simp only [Act.put, List.setIfInBounds_toArray, List.set_cons_zero, List.set_cons_succ]
        rfl
      refine take_ (i := 27) (N := some 100) (v := .agg cs2) (a' := ?_) #[true, true, true, true, true, true, true, true, true, true, true, true, true, true, true, true, true, true, true, true, true, true, true, true, true, true, false, true, true, true, true, false, false, false] rfl rfl (by kernel_rfl) (fun _ _ _ h => h) (Or.inl ⟨rfl, fun w' h => h.exec hi2 rfl rfl⟩) hH3 ?_ ?_
      rotate_left
      · simp only [Act.put, List.setIfInBounds_toArray, List.set_cons_zero, List.set_cons_succ]
        rfl
      refine one_ (i := 26) (N := some 99) #[true, true, true, true, true, true, true, true, true, true, true, true, true, true, true, true, true, true, true, true, true, true, true, true, true, true, true, true, true, true, true, false, false, false] rfl rfl (by kernel_rfl) (by simp) (fun K hK => ?_)
      refine goes_ Try.func32 (by kernel_rfl) rfl #[.pointer (some ⟨b, 0, none⟩), .slice a3 ml.length c3, .int .i64 self, .int .u64 own] (by rfl) rfl rfl (by (try simp only [List.map_toArray, List.map_cons, List.map_nil]); first | done | rfl) ?_
      refine (a2 V3 _ (stepT t x) P3.out.inv.at_.lines a3 c3 ml (HM V3 P3.out.inv.bel).out hc3 hl3 self own).mono ?_
      rintro e V4 ⟨v2, rfl, hv2, hb4⟩
      refine ⟨_, rfl, hK.out _ _ ⟨blk_below hH3.a hb4⟩ (fun hH4 => ?_)⟩
      clear hK K
      have P4 := Lib.hid (P3.out.below hb4)
      refine norm_ (a' := ?_) ?_ ?_
      rotate_left
      · simp only [Act.put, List.setIfInBounds_toArray, List.set_cons_zero, List.set_cons_succ]
        rfl
      refine one_ (i := 31) (N := some 104) #[true, true, true, true, true, true, true, true, true, true, true, true, true, true, true, true, true, true, true, true, true, true, true, true, true, true, true, true, true, true, true, true, false, false] rfl rfl (by kernel_rfl) (by simp) (fun K hK => ?_)
      refine goes_ Try.func33 (by kernel_rfl) rfl #[.agg cs2, .slice a3 ml.length c3, .int .i64 self, .int .u64 own] (by rfl) rfl rfl (by (try simp only [List.map_toArray, List.map_cons, List.map_nil]); first | done | rfl) ?_
      refine (d2 V4 cs2 (stepT t x) HR2.out a3 c3 ml (HM V4 P4.out.inv.bel).out hc3 self own).mono ?_
      rintro e V5 ⟨r2, rfl, hr2, hb5⟩
      refine ⟨_, rfl, hK.out _ _ ⟨blk_below hH4.a hb5⟩ (fun hH5 => ?_)⟩
      clear hK K
      have P5 := Lib.hid (P4.out.below hb5)
      obtain rfl := says_same hv2 hr2 (vals_len _ _ _ _ _) (vals_r0 P5.out.inv.at_.ok ho0 _)
      clear hv2 hr2
      refine norm_ (a' := ?_) ?_ ?_
      rotate_left
      · simp only [Act.put, List.setIfInBounds_toArray, List.set_cons_zero, List.set_cons_succ]
        rfl
      refine pure_ (i := 32) (N := some 105) (v := .bool false) (a' := ?_) #[true, true, true, true, true, true, true, true, true, true, true, true, true, true, true, true, true, true, true, true, true, true, true, true, true, true, true, true, true, true, true, true, true, false] rfl rfl (by kernel_rfl) (fun _ _ _ h => h) (Or.inl ⟨rfl, fun w' => exec_neq50 rfl rfl rfl w'⟩) ?_ ?_
      rotate_left
      · simp only [Act.put, List.setIfInBounds_toArray, List.set_cons_zero, List.set_cons_succ]
        rfl
      refine pure_ (i := 33) (N := some 106) (v := .bool false) (a' := ?_) #[true, true, true, true, true, true, true, true, true, true, true, true, true, true, true, true, true, true, true, true, true, true, true, true, true, true, true, true, true, true, true, true, true, true] rfl rfl (by kernel_rfl) (fun _ _ _ h => h) (Or.inl ⟨rfl, fun w' => by kernel_rfl⟩) ?_ ?_
      rotate_left
      · simp only [Act.put, List.setIfInBounds_toArray, List.set_cons_zero, List.set_cons_succ]
        rfl
      refine done_ (by kernel_rfl) ?_
      go_wp2
      go_roundw
      case rel => exact ⟨k + 1, by go_num, hlt, _, _, _, P5.out, HR2.out⟩
      case measure => simp [intOf]; omega
    · have HQ := Lib.hid Q
      clear Q
      go_wp2_with (go_at_call 23; refine (glives_true _).mono ?_; rintro e w6 ⟨rfl, hb6⟩)
      go_ret
      have b3 := HB.out.trans (HQ.out.inv.bel.mono HB.out.size)
      exact ⟨rfl, b3.trans (hb6.mono b3.size)⟩

set_option maxRecDepth 100000 in
theorem walk_lives (a0 : Option Addr) (c0 : Nat) (l : List Int) (last : Int) (a2 : Option Addr) (len2 cap2 : Nat) (a3 : Option Addr) (c3 : Nat) (ml : List Int) (self own : Int) (w : World) (h : 40 < (l.length : Int) ∨ 40 < (ml.length : Int)) :
    Calls Try.prog 9 #[.slice a0 l.length c0, .int .u64 last, .slice a2 len2 cap2, .slice a3 ml.length c3, .int .i64 self, .int .u64 own] w fun e w' => e = .returned (.bool true) ∧ Below w.heap.size w w' := by
  by_cases h0 : 40 < (l.length : Int)
  · clear h
    go_enter Try.func9, Try.ntmps9
    go_wp2_with (go_at_call 23; refine (glives_true _).mono ?_; rintro e w' ⟨rfl, hn⟩)
    go_ret
    exact ⟨rfl, hn⟩
  · have h1 : 40 < (ml.length : Int) := h.resolve_left h0
    clear h
    go_enter Try.func9, Try.ntmps9
    go_wp2_with (go_at_call 23; refine (glives_true _).mono ?_; rintro e w' ⟨rfl, hn⟩)
    go_ret
    exact ⟨rfl, hn⟩

set_option maxRecDepth 100000 in
set_option maxHeartbeats 1000000 in
theorem walk_far (a0 : Option Addr) (c0 : Nat) (l : List Int) (last : Int) (a2 : Option Addr) (len2 cap2 : Nat) (a3 : Option Addr) (c3 : Nat) (ml : List Int) (self own : Int) (w : World) (h2 : IsCls w a2 len2) (hc : l.length ≤ c0) (hl : IntC w a0 l) (hll : (l.length : Int) ≤ 40) (hlm : (ml.length : Int) ≤ 40) (hw : (Lit.int .u64 last).wf = true) (hx : 1152921504606846976 < last) :
    Calls Try.prog 9 #[.slice a0 l.length c0, .int .u64 last, .slice a2 len2 cap2, .slice a3 ml.length c3, .int .i64 self, .int .u64 own] w fun e w' => e = .returned (.bool true) ∧ Below w.heap.size w w' := by
  have hnx : ¬ last ≤ IX := by unfold IX; omega
  have HI := Lib.hid (glight_ok w a2 len2 cap2 h2)
  have HN := fun w' => Lib.hid (tnew_far w' a0 c0 l.length last hnx)
  have HS := fun w' hb => Lib.hid (rset_ok w' Z60 (fun _ => none) RT_zero a0 c0 l (hl.below hb) hc (by omega) last hw)
  have hdx : decide (last ≤ IX) = false := decide_eq_false hnx
  rw [hdx] at HS
  have hz := zero60
  have hiz := info60 Z60_size
  clear hl h2 hdx hnx
  go_enter Try.func9, Try.ntmps9
  go_wp2_with (first
    | (go_at_call 22; refine HI.out.mono ?_; rintro e w1 ⟨bb, rfl, hb1, hcl⟩; rcases bb with _ | _)
    | (go_at_call 23; refine (glives_true _).mono ?_; rintro e w3 ⟨rfl, hb3⟩)
    | (go_at_call 24; (with_reducible refine (HN _).out.mono ?_); rintro e w4 ⟨rfl, hb4⟩; have HB4 := Lib.hid (hb1.trans (hb4.mono hb1.size)); have HB5 := Lib.hid (HB4.out.trans ((alloc_below w4 (.cells Z60 60)).mono HB4.out.size)); have HZ4 := Lib.hid (heap_alloc_new w4 (.cells Z60 60)))
    | ((with_reducible refine wpList_load_row rfl 60 _ rfl w4.heap.size ?_ 60 Z60 (0, 0) _ HZ4.out Try.underlying60 ?_ hiz ?_); rfl; rfl)
    | (go_at_call 29; (with_reducible refine (HS _ HB5.out).out.mono ?_); rintro e w5 ⟨cs1, rfl, hR1, hb5⟩; have HZ5 := Lib.hid (blk_below HZ4.out hb5); have HR1 := Lib.hid hR1; have hi1 := info60 hR1.size; have HB6 := Lib.hid (below_setRow (hb4.trans (((alloc_below w4 (.cells Z60 60)).trans (hb5.mono (by simp))).mono hb4.size)) hb4.size cs1); clear hR1)
    | ((with_reducible refine wpList_store_row rfl 60 _ _ rfl w4.heap.size cs1 ?_ ?_ 60 Z60 HZ5.out hi1 ?_ HR1.out.one ?_); rfl; rfl; (rw [Z60_size, HR1.out.size])))
  · go_ret
    exact ⟨rfl, hb1.trans (hb3.mono hb1.size)⟩
  · go_ret
    have b6 := hb1.trans (HB6.out.mono hb1.size)
    exact ⟨rfl, b6.trans (hb3.mono b6.size)⟩

theorem walk (a0 : Option Addr) (c0 : Nat) (l : List Int) (last : Int) (a2 : Option Addr) (len2 cap2 : Nat) (a3 : Option Addr) (c3 : Nat) (ml : List Int) (self own : Int) (w : World) (hc : l.length ≤ c0) (hl : IntC w a0 l) (hm : l.length ≤ 9223372036854775807) (hw : (Lit.int .u64 last).wf = true) (h2 : IsCls w a2 len2) (hc3 : ml.length ≤ c3) (hm3 : IntC w a3 ml) (hm' : ml.length ≤ 9223372036854775807) (hwo : (Lit.int .u64 own).wf = true) :
    Calls Try.prog 9 #[.slice a0 l.length c0, .int .u64 last, .slice a2 len2 cap2, .slice a3 ml.length c3, .int .i64 self, .int .u64 own] w fun e w' => e = .returned (.bool true) ∧ Below w.heap.size w w' := by
  by_cases h : 40 < (l.length : Int) ∨ 40 < (ml.length : Int)
  · exact walk_lives a0 c0 l last a2 len2 cap2 a3 c3 ml self own w h
  · by_cases hx : 1152921504606846976 < last
    · exact walk_far a0 c0 l last a2 len2 cap2 a3 c3 ml self own w h2 hc hl (by omega) (by omega) hw hx
    · exact walk_main a0 c0 l last a2 len2 cap2 a3 c3 ml self own w h2 hc hl (by omega) hc3 hm3 (by omega) hw hwo (by omega)

/-! ### The row's step -/
set_option maxRecDepth 100000 in
theorem lifted (os : Os) (started : os.Started) (H : Type) (enc : TypeId × Value → H) :
    ReturnsInHanded {} Try.checked os 9 .any (Rows.progressPlaysSpec.pre6 enc Try.prog Try.f9 Rows.progressPlaysRow.domain false) (Rows.progressPlaysSpec.post enc Try.prog Try.f9 false true false false) := by
  refine returnsInHanded_of_change (C := Try.checked) own started (by kernel_rfl) Try.func9
    (ChangeSpec.witness6 (enc := enc) (C := Try.checked) false ⟨#[], #[.slice none 0 0, .int .u64 0, .slice none 0 0, .slice none 0 0, .int .i64 0, .int .u64 0], []⟩ 8 (by kernel_rfl) (by kernel_rfl) (by kernel_rfl) (by kernel_rfl)) ?_
  intro W base args ds gs before hval0 hW hcnd _
  have hval : ∀ (j : Nat) t v, Try.f9.params[j]? = some t → args[j]? = some v → Value.okWide Try.prog W .any base t v := hval0
  have hW' := hW
  obtain ⟨p, q, hA0, hV, rfl, hfz, hnd⟩ := hW
  have hA : DataW.TrodAll enc Try.prog W 0 (fun _ => true) true Try.f9.params.toList args.toList ds p := hA0
  rw [Try.params9] at hA hval
  obtain ⟨v0, vs0, d0, ds0, p0, q0, hargs, rfl, rfl, h0, r0⟩ := trodAll_cons hA
  obtain ⟨v1, vs1, d1, ds1, p1, q1, rfl, rfl, rfl, h1, r1⟩ := trodAll_cons r0
  obtain ⟨v2, vs2, d2, ds2, p2, q2, rfl, rfl, rfl, h2, r2⟩ := trodAll_cons r1
  obtain ⟨v3, vs3, d3, ds3, p3, q3, rfl, rfl, rfl, h3, r3⟩ := trodAll_cons r2
  obtain ⟨v4, vs4, d4, ds4, p4, q4, rfl, rfl, rfl, h4, r4⟩ := trodAll_cons r3
  obtain ⟨v5, vs5, d5, ds5, p5, q5, rfl, rfl, rfl, h5, r5⟩ := trodAll_cons r4
  obtain ⟨rfl, rfl, rfl⟩ := trodAll_nil r5
  obtain rfl : args = #[v0, v1, v2, v3, v4, v5] := by cases args; simp_all
  obtain ⟨rfl, rfl⟩ := trodVars_none hV
  obtain ⟨a0, len0, cap0, rfl⟩ := okWide_slice Try.underlying22 (hval 0 22 v0 rfl rfl)
  have k0 := h0
  have lt0 : ∀ x ∈ p0, x.block < W.heap.size := by obtain ⟨m, hm⟩ := k0; exact DataW.trod_lt m _ _ _ hm
  obtain ⟨z0, rfl, hc0, hz0, hm0⟩ := (show ∃ l : List Int, l.length = len0 ∧ l.length ≤ cap0 ∧ IntC W a0 l ∧ l.length ≤ 9223372036854775807 by obtain ⟨fuel, hf⟩ := h0; exact ints_in hf)
  obtain ⟨a1, rfl, rfl, rfl, w1⟩ := open_int Try.underlying50 (hval 1 50 v1 rfl rfl) h1
  obtain ⟨a2, len2, cap2, rfl⟩ := okWide_slice Try.underlying49 (hval 2 49 v2 rfl rfl)
  have k2 := h2
  have lt2 : ∀ x ∈ p2, x.block < W.heap.size := by obtain ⟨m, hm⟩ := k2; exact DataW.trod_lt m _ _ _ hm
  have hops2 : IsCls W a2 len2 := by obtain ⟨fuel, hf⟩ := h2; exact isCls hf
  obtain ⟨a3, len3, cap3, rfl⟩ := okWide_slice Try.underlying22 (hval 3 22 v3 rfl rfl)
  have k3 := h3
  have lt3 : ∀ x ∈ p3, x.block < W.heap.size := by obtain ⟨m, hm⟩ := k3; exact DataW.trod_lt m _ _ _ hm
  obtain ⟨z3, rfl, hc3, hz3, hm3⟩ := (show ∃ l : List Int, l.length = len3 ∧ l.length ≤ cap3 ∧ IntC W a3 l ∧ l.length ≤ 9223372036854775807 by obtain ⟨fuel, hf⟩ := h3; exact ints_in hf)
  obtain ⟨a4, rfl, rfl, rfl, w4⟩ := open_int Try.underlying3 (hval 4 3 v4 rfl rfl) h4
  obtain ⟨a5, rfl, rfl, rfl, w5⟩ := open_int Try.underlying50 (hval 5 50 v5 rfl rfl) h5
  clear hA0 hval0
  refine (walk a0 cap0 z0 a1 a2 len2 cap2 a3 cap3 z3 a4 a5 W hc0 hz0 hm0 w1 hops2 hc3 hz3 hm3 w5).mono fun e W' ⟨he, bel⟩ => ?_
  subst he
  exact ⟨_, rfl, _, _, _, [], _, [], hW', trodAll_mk1 (shut_bool Try.underlying4 _), (trodAll_cons_mk (Below.trod laidOut (by kernel_rfl) (of_decide_eq_true (by kernel_rfl)) k0 bel lt0) (trodAll_cons_mk (shut_int Try.underlying50 w1) (trodAll_cons_mk (Below.trod laidOut (by kernel_rfl) (of_decide_eq_true (by kernel_rfl)) k2 bel lt2) (trodAll_cons_mk (Below.trod laidOut (by kernel_rfl) (of_decide_eq_true (by kernel_rfl)) k3 bel lt3) (trodAll_cons_mk (shut_int Try.underlying3 w4) (trodAll_cons_mk (shut_int Try.underlying50 w5) trodAll_mk0)))))), rfl, bel.frame _, fun h => by cases h⟩

theorem over : Rows.progressPlaysRow.holds Try.pinned (OpenSpec.ofChange Rows.progressPlaysSpec) :=
  OpenClaim.holds_of_wide 9 Try.f9 rfl rfl rfl rfl rfl rfl rfl ⟨rfl, rfl, rfl, rfl, rfl⟩ rfl rfl rfl rfl rfl (by kernel_rfl) Try.func9 (by kernel_rfl)
    (of_decide_eq_true (by kernel_rfl)) (by unfold Func.isWrapper; first | (rw [if_pos (by decide +kernel)]; kernel_rfl) | (rw [if_neg (by decide +kernel)]; exact ⟨rfl, rfl⟩))
    (fun os started H enc _ => lifted os started H enc)

/-- The statement. -/
theorem proved : Rows.ProgressPlaysSaid := over
#print axioms proved
end Go.Proofs.Ytibdjmmhdggpfaa.progressPlays
