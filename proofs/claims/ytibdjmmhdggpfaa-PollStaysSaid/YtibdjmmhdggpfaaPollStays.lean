/-
  For every input curfewlaw32.PollStays returns true and leaves its arguments as they were. Conditions: none.
  (The frame of the row began as the shell that the kit's proof-skeleton.mjs writes; the walk is typed here.)
-/
import Derived.Test.YtibdjmmhdggpfaaRows
import Derived.Test.YtibdjmmhdggpfaaArgs
import Derived.Deep.OwnRows
import Derived.WalkKit
import Derived.ProofKit
import Derived.OpenShut
import Derived.ShutString
import Derived.ChangeOld
import Derived.Below
namespace Go.Proofs.Ytibdjmmhdggpfaa.pollStays
open Go.ChangeShapes Go.WideShapes Go.ChangeAt Go.RowKit
open Go.ChangeMaps (open_string shut_string)
open Go.Proofs.Ytibdjmmhdggpfaa.pure
set_option linter.unusedVariables false

theorem own : ownKnob Try.prog.godebug = none := by kernel_rfl
theorem laidOut : laidOutB Try.prog = true := by kernel_rfl

theorem walk_lives (A : Option Addr) (c : Nat) (l : List Int) (a1 : Option Addr) (len1 cap1 : Nat) (a2 : Option Addr) (len2 cap2 : Nat) (w : World) (hc : l.length ≤ c) (hl : IntC w A l) (h1 : len1 ≤ 9223372036854775807) (h2 : len2 ≤ 9223372036854775807)
    (sm : Int) (hwr : IntKind.i64.wrap ((len1 : Int) + (len2 : Int)) = sm) (h : 40 < (l.length : Int) ∨ 60 < sm ∨ snd l = false) :
    Calls Try.prog 4 #[.slice A l.length c, .slice a1 len1 cap1, .slice a2 len2 cap2] w fun e w' => e = .returned (.bool true) ∧ Below w.heap.size w w' := by
  have HH := Lib.hid hl
  clear hl
  by_cases c1 : 40 < (l.length : Int)
  · clear h
    go_enter Try.func4, Try.ntmps4
    go_wp2_with (go_at_call 11; refine (lives_true _).mono ?_; rintro e w' ⟨rfl, hn⟩)
    go_ret
    exact ⟨rfl, hn⟩
  · by_cases c2 : 60 < sm
    · clear h
      go_enter Try.func4, Try.ntmps4
      go_wp2_with (go_at_call 11; refine (lives_true _).mono ?_; rintro e w' ⟨rfl, hn⟩)
      go_ret
      exact ⟨rfl, hn⟩
    · have h3 : snd l = false := by
        rcases h with h | h | h
        · exact absurd h c1
        · exact absurd h c2
        · exact h
      have HS := Lib.hid (rsound w A c l HH.out hc)
      rw [h3] at HS
      clear h h3
      go_enter Try.func4, Try.ntmps4
      go_wp2_with (first
        | (go_at_call 13; refine HS.out.mono ?_; rintro e w1 ⟨rfl, hb⟩)
        | (go_at_call 11; refine (lives_true _).mono ?_; rintro e w' ⟨rfl, hn⟩))
      go_ret
      exact ⟨rfl, hb.trans (hn.mono hb.size)⟩

set_option maxRecDepth 100000 in
set_option maxHeartbeats 800000 in
theorem walk_main (A : Option Addr) (c : Nat) (l : List Int) (a1 : Option Addr) (len1 cap1 : Nat) (a2 : Option Addr) (len2 cap2 : Nat) (w : World) (hc : l.length ≤ c) (hl : IntC w A l) (hi1 : IsSaid w a1 len1) (hi2 : IsSaid w a2 len2)
    (sm : Int) (hwr : IntKind.i64.wrap ((len1 : Int) + (len2 : Int)) = sm) (h1 : (l.length : Int) ≤ 40) (h2 : sm ≤ 60) (h3 : snd l = true) :
    Calls Try.prog 4 #[.slice A l.length c, .slice a1 len1 cap1, .slice a2 len2 cap2] w fun e w' => e = .returned (.bool true) ∧ Below w.heap.size w w' := by
  have hm1 := hi1.1
  have hm2 := hi2.1
  have HS := Lib.hid (rsound w A c l hl hc)
  rw [h3] at HS
  have HN := fun w1 hb => Lib.hid (new_ok w1 A c l (hl.below hb) hc (by omega) h3)
  have HT := Lib.hid h3
  have HI1 := Lib.hid hi1
  have HI2 := Lib.hid hi2
  clear hl h3 hi1 hi2
  go_enter Try.func4, Try.ntmps4
  go_wp2_with (first
    | (go_at_call 13; (refine HS.out.mono ?_); rintro e w1 ⟨rfl, hb⟩)
    | (go_at_call 12; (with_reducible refine (HN _ hb).out.mono ?_); rintro e w2 ⟨b, bm, A2, c2, rfl, HP, hb2, hl1, hl2, hl3⟩))
  have R0 : Rel w b bm A2 c2 l (fun _ => 0) w2 := ⟨HP.any_kept (w' := w2) (Nat.zero_le _), hb.trans (hb2.mono hb.size), by have := hb.size; omega⟩
  clear HP hb2 hl1 hl2 hl3 HS HN hb hwr
  go_loopw [34] (fun i wr => ∃ k : Nat, i = .int .i64 k ∧ k ≤ len1 ∧ ∃ said, Rel w b bm A2 c2 l said wr) (fun i _ => len1 - (intOf i).toNat)
  case atStart => exact ⟨0, rfl, Nat.zero_le _, _, R0⟩
  case round =>
    obtain ⟨k, rfl, hk, said, R⟩ := hrel
    by_cases hlt : k < len1
    · obtain ⟨b1, o1, x, ok, rfl, hc0, hc1⟩ := HI1.out.2 k hlt
      have hb1 : b1 < w.heap.size := World.block_lt_of_cell? _ _ hc0
      have d0 := (R.bel.cell (p := ⟨b1, o1 + k * 2, none⟩) hb1).trans hc0
      have d1 := (R.bel.cell (p := ⟨b1, o1 + k * 2 + 1, none⟩) hb1).trans hc1
      clear hc0 hc1
      go_wp2_with (go_at_call 15; (with_reducible refine (pnotes _ b bm A2 c2 l said (R.at_.below (alloc_below _ _)) x ok).mono ?_); rintro e w3 ⟨rfl, HP3, hg3⟩)
      have R3 := R.step HP3 hg3
      clear R HP3 hg3
      go_roundw
      case rel => exact ⟨k + 1, by go_num, hlt, _, R3⟩
      case measure => simp [intOf]; omega
    · obtain ⟨s0, hs0⟩ : ∃ s0, state l said = s0 := ⟨_, rfl⟩
      have HPS := Lib.hid (pstate wr b bm A2 c2 l said _ R.at_)
      have hr := state_range l said
      rw [hs0] at HPS hr
      obtain ⟨hr1, hr3⟩ := hr
      have HE := Lib.hid hs0
      clear hs0 R0
      go_wp2_with (go_at_call 16; (refine HPS.out.mono ?_); rintro e w4 ⟨rfl, hb4⟩)
      have R4 := R.below hb4
      clear R HPS hb4
      go_loopw [49] (fun i wx => ∃ j : Nat, i = .int .i64 j ∧ j ≤ len2 ∧ ∃ said', Rel w b bm A2 c2 l said' wx ∧ Hid (s0 ≠ 1 → state l said' = s0)) (fun i _ => len2 - (intOf i).toNat)
      case atStart => exact ⟨0, rfl, Nat.zero_le _, _, R4, Lib.hid fun _ => HE.out⟩
      case round =>
        clear R4
        obtain ⟨j, rfl, hj, said', R, HQ⟩ := hrel
        by_cases hlt2 : j < len2
        · obtain ⟨b1, o1, x, ok, rfl, hc0, hc1⟩ := HI2.out.2 j hlt2
          have hb1 : b1 < w.heap.size := World.block_lt_of_cell? _ _ hc0
          have d0 := (R.bel.cell (p := ⟨b1, o1 + j * 2, none⟩) hb1).trans hc0
          have d1 := (R.bel.cell (p := ⟨b1, o1 + j * 2 + 1, none⟩) hb1).trans hc1
          clear hc0 hc1
          by_cases e1 : s0 = 1
          · have hne : (s0 != 1) = false := by simpa using e1
            have hne2 : decide (s0 = 1) = true := by simpa using e1
            have HE1 := Lib.hid e1
            clear e1
            go_wp2_with (go_at_call 15; (with_reducible refine (pnotes _ b bm A2 c2 l said' (R.at_.below (alloc_below _ _)) x ok).mono ?_); rintro e w5 ⟨rfl, HP5, hg5⟩)
            have R5 := R.step HP5 hg5
            clear R HP5 hg5
            go_roundw
            case rel => exact ⟨j + 1, by go_num, hlt2, _, R5, Lib.hid fun h => absurd HE1.out h⟩
            case measure => simp [intOf]; omega
          · have hne : (s0 != 1) = true := by simpa using e1
            have hne2 : decide (s0 = 1) = false := by simpa using e1
            have HE1 := Lib.hid e1
            have hst : state l (say l said' x ok) = s0 := (state_stays R.at_.ok HT.out x ok (by rw [HQ.out e1]; exact e1)).trans (HQ.out e1)
            have HST := Lib.hid hst
            have HSC := fun w5 h => Lib.hid (pstate w5 b bm A2 c2 l (say l said' x ok) (cd (say l said' x ok)) h)
            rw [hst] at HSC
            clear e1 hst
            go_wp2_with (first
              | (go_at_call 15; (with_reducible refine (pnotes _ b bm A2 c2 l said' (R.at_.below (alloc_below _ _)) x ok).mono ?_); rintro e w5 ⟨rfl, HP5, hg5⟩; have R5 := R.step HP5 hg5; clear R hg5)
              | (go_at_call 16; (with_reducible refine (HSC _ HP5).out.mono ?_); rintro e w6 ⟨rfl, hb6⟩; have R6 := R5.below hb6; clear R5 hb6))
            go_roundw
            case rel => exact ⟨j + 1, by go_num, hlt2, _, R6, Lib.hid fun _ => HST.out⟩
            case measure => simp [intOf]; omega
        · go_wp2_with (go_at_call 11; (refine (lives_true _).mono ?_); rintro e w7 ⟨rfl, hb7⟩)
          go_ret
          exact ⟨rfl, R.bel.trans (hb7.mono R.bel.size)⟩

theorem walk (a0 : Option Addr) (c0 : Nat) (z0 : List Int) (a1 : Option Addr) (len1 cap1 : Nat) (a2 : Option Addr) (len2 cap2 : Nat) (w : World) (hc : z0.length ≤ c0) (hl : IntC w a0 z0) (hm : z0.length ≤ 9223372036854775807) (hi1 : IsSaid w a1 len1) (hi2 : IsSaid w a2 len2) :
    Calls Try.prog 4 #[.slice a0 z0.length c0, .slice a1 len1 cap1, .slice a2 len2 cap2] w fun e w' => e = .returned (.bool true) ∧ Below w.heap.size w w' := by
  by_cases h : 40 < (z0.length : Int) ∨ 60 < IntKind.i64.wrap ((len1 : Int) + (len2 : Int)) ∨ snd z0 = false
  · exact walk_lives a0 c0 z0 a1 len1 cap1 a2 len2 cap2 w hc hl hi1.1 hi2.1 _ rfl h
  · have h3 : snd z0 = true := by
      rcases hs : snd z0 with _ | _
      · exact absurd (.inr (.inr hs)) h
      · rfl
    exact walk_main a0 c0 z0 a1 len1 cap1 a2 len2 cap2 w hc hl hi1 hi2 _ rfl (by omega) (by omega) h3

/-! ### The row's step -/
set_option maxRecDepth 100000 in
theorem lifted (os : Os) (started : os.Started) (H : Type) (enc : TypeId × Value → H) :
    ReturnsInHanded {} Try.checked os 4 .any (Rows.pollStaysSpec.pre6 enc Try.prog Try.f4 Rows.pollStaysRow.domain false) (Rows.pollStaysSpec.post enc Try.prog Try.f4 false true false false) := by
  refine returnsInHanded_of_change (C := Try.checked) own started (by kernel_rfl) Try.func4
    (ChangeSpec.witness6 (enc := enc) (C := Try.checked) false ⟨#[], #[.slice none 0 0, .slice none 0 0, .slice none 0 0], []⟩ 8 (by kernel_rfl) (by kernel_rfl) (by kernel_rfl) (by kernel_rfl)) ?_
  intro W base args ds gs before hval0 hW hcnd _
  have hval : ∀ (j : Nat) t v, Try.f4.params[j]? = some t → args[j]? = some v → Value.okWide Try.prog W .any base t v := hval0
  have hW' := hW
  obtain ⟨p, q, hA0, hV, rfl, hfz, hnd⟩ := hW
  have hA : DataW.TrodAll enc Try.prog W 0 (fun _ => true) true Try.f4.params.toList args.toList ds p := hA0
  rw [Try.params4] at hA hval
  obtain ⟨v0, vs0, d0, ds0, p0, q0, hargs, rfl, rfl, h0, r0⟩ := trodAll_cons hA
  obtain ⟨v1, vs1, d1, ds1, p1, q1, rfl, rfl, rfl, h1, r1⟩ := trodAll_cons r0
  obtain ⟨v2, vs2, d2, ds2, p2, q2, rfl, rfl, rfl, h2, r2⟩ := trodAll_cons r1
  obtain ⟨rfl, rfl, rfl⟩ := trodAll_nil r2
  obtain rfl : args = #[v0, v1, v2] := by cases args; simp_all
  obtain ⟨rfl, rfl⟩ := trodVars_none hV
  obtain ⟨a0, len0, cap0, rfl⟩ := okWide_slice Try.underlying22 (hval 0 22 v0 rfl rfl)
  have k0 := h0
  have lt0 : ∀ x ∈ p0, x.block < W.heap.size := by obtain ⟨m, hm⟩ := k0; exact DataW.trod_lt m _ _ _ hm
  obtain ⟨z0, rfl, hc0, hz0, hm0⟩ := (show ∃ l : List Int, l.length = len0 ∧ l.length ≤ cap0 ∧ IntC W a0 l ∧ l.length ≤ 9223372036854775807 by obtain ⟨fuel, hf⟩ := h0; exact ints_in hf)
  obtain ⟨a1, len1, cap1, rfl⟩ := okWide_slice Try.underlying23 (hval 1 23 v1 rfl rfl)
  have k1 := h1
  have lt1 : ∀ x ∈ p1, x.block < W.heap.size := by obtain ⟨m, hm⟩ := k1; exact DataW.trod_lt m _ _ _ hm
  have hops1 : IsSaid W a1 len1 := by obtain ⟨fuel, hf⟩ := h1; exact isSaid hf
  obtain ⟨a2, len2, cap2, rfl⟩ := okWide_slice Try.underlying23 (hval 2 23 v2 rfl rfl)
  have k2 := h2
  have lt2 : ∀ x ∈ p2, x.block < W.heap.size := by obtain ⟨m, hm⟩ := k2; exact DataW.trod_lt m _ _ _ hm
  have hops2 : IsSaid W a2 len2 := by obtain ⟨fuel, hf⟩ := h2; exact isSaid hf
  clear hA0 hval0
  refine (walk a0 cap0 z0 a1 len1 cap1 a2 len2 cap2 W hc0 hz0 hm0 hops1 hops2).mono fun e W' ⟨he, bel⟩ => ?_
  subst he
  exact ⟨_, rfl, _, _, _, [], _, [], hW', trodAll_mk1 (shut_bool Try.underlying4 _), (trodAll_cons_mk (Below.trod laidOut (by kernel_rfl) (of_decide_eq_true (by kernel_rfl)) k0 bel lt0) (trodAll_cons_mk (Below.trod laidOut (by kernel_rfl) (of_decide_eq_true (by kernel_rfl)) k1 bel lt1) (trodAll_cons_mk (Below.trod laidOut (by kernel_rfl) (of_decide_eq_true (by kernel_rfl)) k2 bel lt2) trodAll_mk0))), rfl, bel.frame _, fun h => by cases h⟩

theorem over : Rows.pollStaysRow.holds Try.pinned (OpenSpec.ofChange Rows.pollStaysSpec) :=
  OpenClaim.holds_of_wide 4 Try.f4 rfl rfl rfl rfl rfl rfl rfl ⟨rfl, rfl, rfl, rfl, rfl⟩ rfl rfl rfl rfl rfl (by kernel_rfl) Try.func4 (by kernel_rfl)
    (of_decide_eq_true (by kernel_rfl)) (by unfold Func.isWrapper; first | (rw [if_pos (by decide +kernel)]; kernel_rfl) | (rw [if_neg (by decide +kernel)]; exact ⟨rfl, rfl⟩))
    (fun os started H enc _ => lifted os started H enc)

/-- The statement. -/
theorem proved : Rows.PollStaysSaid := over
#print axioms proved
end Go.Proofs.Ytibdjmmhdggpfaa.pollStays
