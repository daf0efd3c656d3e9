/-
  For every input curfewlaw31.ProgressAgreed returns true and leaves its arguments as they were. Conditions: none.
  (The frame of the row began as the shell that the kit's proof-skeleton.mjs writes; the walk is typed here.)
-/
import Derived.Test.YtibdjmmhdggpfaaRows
import Derived.Test.YtibdjmmhdggpfaaGLives
import Derived.Deep.OwnRows
import Derived.WalkKit
import Derived.ProofKit
import Derived.OpenShut
import Derived.ShutString
import Derived.ChangeOld
import Derived.Below
namespace Go.Proofs.Ytibdjmmhdggpfaa.progressAgreed
open Go.ChangeShapes Go.WideShapes Go.ChangeAt Go.RowKit
open Go.ChangeMaps (open_string shut_string)
open Go.Maps
open Go.Proofs.YtibdjmmhdggpfaaW.PrintWords
open Go.Proofs.YtibdjmmhdggpfaaW.PrintMore
open Go.Proofs.Ytibdjmmhdggpfaa.PPollPlays
open Go.Proofs.Ytibdjmmhdggpfaa.pure
open Go.Proofs.Ytibdjmmhdggpfaa.fmap
set_option linter.unusedVariables false

theorem own : ownKnob Try.prog.godebug = none := by kernel_rfl
theorem laidOut : laidOutB Try.prog = true := by kernel_rfl

set_option maxRecDepth 100000 in
set_option maxHeartbeats 4000000 in
theorem walk_main (a0 : Option Addr) (len0 cap0 : Nat) (a1 : Option Addr) (c1 : Nat) (l : List Int) (self own : Int) (w : World) (h0 : IsCls w a0 len0) (hc : l.length ≤ c1) (hl : IntC w a1 l) (hs : snd l = true) :
    Calls Try.prog 7 #[.slice a0 len0 cap0, .slice a1 l.length c1, .int .i64 self, .int .u64 own] w fun e w' => e = .returned (.bool true) ∧ Below w.heap.size w w' := by
  have hl7 := snd_length hs
  have HI := Lib.hid (glight_ok w a0 len0 cap0 h0)
  have HS := fun w' hb => Lib.hid (rsound w' a1 c1 l (hl.below hb) hc)
  rw [hs] at HS
  have HN := fun w' hb => Lib.hid (tnew_ok w' a1 c1 l (hl.below hb) hc (by omega) 0 (by decide) (by decide))
  have HL := Lib.hid hl
  have HT := Lib.hid hs
  have hz := zero60
  have hu := Try.underlying55
  have hq := fun w' p t hL hb => Lib.hid (agreed_ok w' p t hL a1 c1 l (hl.below hb) hc hs self own)
  clear hs hl h0
  go_enter Try.func7, Try.ntmps7
  go_wp2_with (first
    | (go_at_call 22; refine HI.out.mono ?_; rintro e w1 ⟨bb, rfl, hb1, hcl⟩; rcases bb with _ | _)
    | (go_at_call 13; (with_reducible refine (HS _ hb1).out.mono ?_); rintro e w2 ⟨rfl, hb2⟩)
    | (go_at_call 23; refine (glives_true _).mono ?_; rintro e w3 ⟨rfl, hb3⟩)
    | (go_at_call 24; (with_reducible refine (HN _ (hb1.trans (hb2.mono hb1.size))).out.mono ?_); rintro e w4 ⟨b, bm, bl, rfl, hT4, hb4⟩))
  · go_ret
    exact ⟨rfl, hb1.trans (hb3.mono hb1.size)⟩
  have hb12 := hb1.trans (hb2.mono hb1.size)
  have HW : Below w.heap.size w w4 := hb12.trans (hb4.mono hb12.size)
  have HC := Lib.hid (hcl trivial)
  have HB := Lib.hid hb12
  have HW4 := Lib.hid HW
  have h1s : w1.heap.size ≤ w2.heap.size := hb2.size
  have R0 : Inv w2 b bm bl (news (fun _ => none) l 0) w4 := ⟨hT4, hb4⟩
  have hb1' := Lib.hid hb1
  have hl200 := HC.out.1
  clear hcl hT4 hb4 HW hb12 hb1 hb2 HS HN HI
  go_loopw [31] (fun i wr => ∃ k : Nat, i = .int .i64 k ∧ k ≤ len0 ∧ ∃ t bl', Inv w2 b bm bl' t wr) (fun i _ => len0 - (intOf i).toNat)
  case atStart => exact ⟨0, rfl, Nat.zero_le _, _, _, R0⟩
  case round =>
    clear R0
    obtain ⟨k, rfl, hk, t, bl', R⟩ := hrel
    by_cases hlt : k < len0
    · obtain ⟨ob, oo, x, A, c, rfl, hat, hin, hx40⟩ := HC.out.2 k hlt
      have HO := Lib.hid (hat.below (HB.out.trans (R.bel.mono HB.out.size)))
      have d0 : wr.cell? ⟨ob, oo + k * 4, none⟩ = some (.int .i64 x.k) := HO.out.cell 0 _ rfl
      have d1 := HO.out.cell 1 _ rfl
      have d2 := HO.out.cell 2 _ rfl
      have d3 := HO.out.cell 3 _ rfl
      have HR := Lib.hid R
      have HIN := Lib.hid hin
      clear hat
      have hs0 := R.bel.size
      have HD := Lib.hid (do_ok _ w2.heap.size b bm bl' t (fun _ => none) (R.at_.below (alloc_below wr (.cells (qc x A c).toArray 55))) Z60 RT_zero TOk_none x A c (cl_later hin HB.out (R.below (alloc_below _ _))) hx40)
      clear R hin
      go_wp2_with (go_at_call 25; refine HD.out.mono ?_; rintro e w5 ⟨cs, bl2, rfl, hRT, hT5, hS5⟩)
      go_roundw
      case rel => exact ⟨k + 1, by go_num, hlt, _, _, (HR.out.below (alloc_below _ _)).step hT5 hS5⟩
      case measure => simp [intOf]; omega
    · have HR := Lib.hid R
      have HQ := Lib.hid (hq wr _ _ R.at_.lines (HB.out.trans (R.bel.mono HB.out.size)))
      have HHV := fun w' n hw hb => Lib.hid (hasv_ok w' _ t (R.at_.lines.below hb) n self own hw)
      have HBR := Lib.hid (HB.out.trans (R.bel.mono HB.out.size))
      clear R hq
      go_wp2_with (go_at_call 26; refine HQ.out.out.mono ?_; rintro e w5 ⟨v, rfl, hv, hb5⟩)
      obtain ⟨hvm, hge, hgt⟩ := hv.counts
      rw [vals_m, List.countP_map, List.length_map] at hge hgt
      have HG := Lib.hid (And.intro hge hgt)
      have HB5 := Lib.hid hb5
      clear hv hvm hge hgt hb5
      go_loopw [47, 13, 14] (fun i a o wq => ∃ k : Nat, i = .int .i64 k ∧ k ≤ l.length ∧ a = .int .i64 ((l.take k).countP ((fun y => decide (v ≤ y)) ∘ hasv t self own) : Nat) ∧ o = .int .i64 ((l.take k).countP ((fun y => decide (v < y)) ∘ hasv t self own) : Nat) ∧ Below wr.heap.size wr wq) (fun i _ _ _ => l.length - (intOf i).toNat)
      case atStart => exact ⟨0, rfl, Nat.zero_le _, rfl, rfl, HB5.out⟩
      case round =>
        obtain ⟨j, rfl, hj, rfl, rfl, hbq⟩ := hrel
        by_cases hlt2 : j < l.length
        · obtain ⟨ad, rfl, hcell⟩ := (IntC_iff.1 (HL.out.below (HBR.out.trans (hbq.mono HBR.out.size)))).2 (by omega)
          have hck := hcell j hlt2
          have hwx := wf_node HT.out (List.getElem_mem hlt2)
          have e1 : (l.take (j + 1)).countP ((fun y => decide (v ≤ y)) ∘ hasv t self own) = (l.take j).countP ((fun y => decide (v ≤ y)) ∘ hasv t self own) + (if v ≤ hasv t self own l[j] then 1 else 0) := by
            rw [List.take_succ_eq_append_getElem hlt2, List.countP_append]; simp [List.countP_cons]
          have e2 : (l.take (j + 1)).countP ((fun y => decide (v < y)) ∘ hasv t self own) = (l.take j).countP ((fun y => decide (v < y)) ∘ hasv t self own) + (if v < hasv t self own l[j] then 1 else 0) := by
            rw [List.take_succ_eq_append_getElem hlt2, List.countP_append]; simp [List.countP_cons]
          have b1 : (l.take j).countP ((fun y => decide (v ≤ y)) ∘ hasv t self own) ≤ 7 := Nat.le_trans List.countP_le_length (by rw [List.length_take]; omega)
          have b2 : (l.take j).countP ((fun y => decide (v < y)) ∘ hasv t self own) ≤ 7 := Nat.le_trans List.countP_le_length (by rw [List.length_take]; omega)
          have E1 := Lib.hid e1
          have E2 := Lib.hid e2
          clear e1 e2
          generalize (l.take j).countP ((fun y => decide (v ≤ y)) ∘ hasv t self own) = p1 at E1 b1 ⊢
          generalize (l.take j).countP ((fun y => decide (v < y)) ∘ hasv t self own) = p2 at E2 b2 ⊢
          generalize l[j] = x at hck hwx E1 E2
          have HV := Lib.hid (HHV wr x hwx hbq)
          generalize hasv t self own x = y at HV E1 E2
          have HBQ := Lib.hid hbq
          clear hbq hcell
          by_cases c1 : v ≤ y
          · by_cases c2 : v < y
            · go_wp2_with (go_at_call 27; refine HV.out.out.mono ?_; rintro e w6 ⟨rfl, hb6⟩)
              go_roundw
              case rel => exact ⟨j + 1, by go_num, hlt2, by rw [E1.out, if_pos c1]; go_num, by rw [E2.out, if_pos c2]; go_num, HBQ.out.trans (hb6.mono HBQ.out.size)⟩
              case measure => simp [intOf]; omega
            · go_wp2_with (go_at_call 27; refine HV.out.out.mono ?_; rintro e w6 ⟨rfl, hb6⟩)
              go_roundw
              case rel => exact ⟨j + 1, by go_num, hlt2, by rw [E1.out, if_pos c1]; go_num, by rw [E2.out, if_neg (by omega)]; go_num, HBQ.out.trans (hb6.mono HBQ.out.size)⟩
              case measure => simp [intOf]; omega
          · have c2 : ¬ v < y := by omega
            go_wp2_with (go_at_call 27; refine HV.out.out.mono ?_; rintro e w6 ⟨rfl, hb6⟩)
            go_roundw
            case rel => exact ⟨j + 1, by go_num, hlt2, by rw [E1.out, if_neg (by omega)]; go_num, by rw [E2.out, if_neg (by omega)]; go_num, HBQ.out.trans (hb6.mono HBQ.out.size)⟩
            case measure => simp [intOf]; omega
        · obtain rfl : j = l.length := by omega
          have hg := HG.out
          have g0 : l.countP ((fun y => decide (v ≤ y)) ∘ hasv t self own) ≤ 7 := Nat.le_trans List.countP_le_length (by omega)
          rw [List.take_length]
          generalize l.countP ((fun y => decide (v ≤ y)) ∘ hasv t self own) = p1 at hg g0 ⊢
          generalize l.countP ((fun y => decide (v < y)) ∘ hasv t self own) = p2 at hg ⊢
          have g1 : (l.length : Int) < 2 * (p1 : Int) := by omega
          have g2 : 2 * (p2 : Int) ≤ (l.length : Int) := by omega
          have HBQ := Lib.hid hbq
          clear hbq
          go_wp2_with (go_at_call 23; refine (glives_true _).mono ?_; rintro e w6 ⟨rfl, hb6⟩)
          go_ret
          have b3 := HBR.out.trans (HBQ.out.mono HBR.out.size)
          exact ⟨rfl, b3.trans (hb6.mono b3.size)⟩

set_option maxRecDepth 100000 in
theorem walk_lives (a0 : Option Addr) (len0 cap0 : Nat) (a1 : Option Addr) (c1 : Nat) (l : List Int) (self own : Int) (w : World) (h0 : IsCls w a0 len0) (hc : l.length ≤ c1) (hl : IntC w a1 l) (hs : snd l = false) :
    Calls Try.prog 7 #[.slice a0 len0 cap0, .slice a1 l.length c1, .int .i64 self, .int .u64 own] w fun e w' => e = .returned (.bool true) ∧ Below w.heap.size w w' := by
  have HI := Lib.hid (glight_ok w a0 len0 cap0 h0)
  have HS := fun w' hb => Lib.hid (rsound w' a1 c1 l (hl.below hb) hc)
  rw [hs] at HS
  clear hs hl h0
  go_enter Try.func7, Try.ntmps7
  go_wp2_with (first
    | (go_at_call 22; refine HI.out.mono ?_; rintro e w1 ⟨bb, rfl, hb1, hcl⟩; rcases bb with _ | _)
    | (go_at_call 13; (with_reducible refine (HS _ hb1).out.mono ?_); rintro e w2 ⟨rfl, hb2⟩)
    | (go_at_call 23; refine (glives_true _).mono ?_; rintro e w3 ⟨rfl, hb3⟩))
  · go_ret
    exact ⟨rfl, hb1.trans (hb3.mono hb1.size)⟩
  · go_ret
    have hb12 := hb1.trans (hb2.mono hb1.size)
    exact ⟨rfl, hb12.trans (hb3.mono hb12.size)⟩

theorem walk (a0 : Option Addr) (len0 cap0 : Nat) (a1 : Option Addr) (c1 : Nat) (l : List Int) (self own : Int) (w : World) (h0 : IsCls w a0 len0) (hc : l.length ≤ c1) (hl : IntC w a1 l) (hm : l.length ≤ 9223372036854775807) :
    Calls Try.prog 7 #[.slice a0 len0 cap0, .slice a1 l.length c1, .int .i64 self, .int .u64 own] w fun e w' => e = .returned (.bool true) ∧ Below w.heap.size w w' := by
  rcases hs : snd l with _ | _
  · exact walk_lives a0 len0 cap0 a1 c1 l self own w h0 hc hl hs
  · exact walk_main a0 len0 cap0 a1 c1 l self own w h0 hc hl hs

/-! ### The row's step -/
set_option maxRecDepth 100000 in
theorem lifted (os : Os) (started : os.Started) (H : Type) (enc : TypeId × Value → H) :
    ReturnsInHanded {} Try.checked os 7 .any (Rows.progressAgreedSpec.pre6 enc Try.prog Try.f7 Rows.progressAgreedRow.domain false) (Rows.progressAgreedSpec.post enc Try.prog Try.f7 false true false false) := by
  refine returnsInHanded_of_change (C := Try.checked) own started (by kernel_rfl) Try.func7
    (ChangeSpec.witness6 (enc := enc) (C := Try.checked) false ⟨#[], #[.slice none 0 0, .slice none 0 0, .int .i64 0, .int .u64 0], []⟩ 8 (by kernel_rfl) (by kernel_rfl) (by kernel_rfl) (by kernel_rfl)) ?_
  intro W base args ds gs before hval0 hW hcnd _
  have hval : ∀ (j : Nat) t v, Try.f7.params[j]? = some t → args[j]? = some v → Value.okWide Try.prog W .any base t v := hval0
  have hW' := hW
  obtain ⟨p, q, hA0, hV, rfl, hfz, hnd⟩ := hW
  have hA : DataW.TrodAll enc Try.prog W 0 (fun _ => true) true Try.f7.params.toList args.toList ds p := hA0
  rw [Try.params7] at hA hval
  obtain ⟨v0, vs0, d0, ds0, p0, q0, hargs, rfl, rfl, h0, r0⟩ := trodAll_cons hA
  obtain ⟨v1, vs1, d1, ds1, p1, q1, rfl, rfl, rfl, h1, r1⟩ := trodAll_cons r0
  obtain ⟨v2, vs2, d2, ds2, p2, q2, rfl, rfl, rfl, h2, r2⟩ := trodAll_cons r1
  obtain ⟨v3, vs3, d3, ds3, p3, q3, rfl, rfl, rfl, h3, r3⟩ := trodAll_cons r2
  obtain ⟨rfl, rfl, rfl⟩ := trodAll_nil r3
  obtain rfl : args = #[v0, v1, v2, v3] := by cases args; simp_all
  obtain ⟨rfl, rfl⟩ := trodVars_none hV
  obtain ⟨a0, len0, cap0, rfl⟩ := okWide_slice Try.underlying49 (hval 0 49 v0 rfl rfl)
  have k0 := h0
  have lt0 : ∀ x ∈ p0, x.block < W.heap.size := by obtain ⟨m, hm⟩ := k0; exact DataW.trod_lt m _ _ _ hm
  have hops0 : IsCls W a0 len0 := by obtain ⟨fuel, hf⟩ := h0; exact isCls hf
  obtain ⟨a1, len1, cap1, rfl⟩ := okWide_slice Try.underlying22 (hval 1 22 v1 rfl rfl)
  have k1 := h1
  have lt1 : ∀ x ∈ p1, x.block < W.heap.size := by obtain ⟨m, hm⟩ := k1; exact DataW.trod_lt m _ _ _ hm
  obtain ⟨z1, rfl, hc1, hz1, hm1⟩ := (show ∃ l : List Int, l.length = len1 ∧ l.length ≤ cap1 ∧ IntC W a1 l ∧ l.length ≤ 9223372036854775807 by obtain ⟨fuel, hf⟩ := h1; exact ints_in hf)
  obtain ⟨a2, rfl, rfl, rfl, w2⟩ := open_int Try.underlying3 (hval 2 3 v2 rfl rfl) h2
  obtain ⟨a3, rfl, rfl, rfl, w3⟩ := open_int Try.underlying50 (hval 3 50 v3 rfl rfl) h3
  clear hA0 hval0
  refine (walk a0 len0 cap0 a1 cap1 z1 a2 a3 W hops0 hc1 hz1 hm1).mono fun e W' ⟨he, bel⟩ => ?_
  subst he
  exact ⟨_, rfl, _, _, _, [], _, [], hW', trodAll_mk1 (shut_bool Try.underlying4 _), (trodAll_cons_mk (Below.trod laidOut (by kernel_rfl) (of_decide_eq_true (by kernel_rfl)) k0 bel lt0) (trodAll_cons_mk (Below.trod laidOut (by kernel_rfl) (of_decide_eq_true (by kernel_rfl)) k1 bel lt1) (trodAll_cons_mk (shut_int Try.underlying3 w2) (trodAll_cons_mk (shut_int Try.underlying50 w3) trodAll_mk0)))), rfl, bel.frame _, fun h => by cases h⟩

theorem over : Rows.progressAgreedRow.holds Try.pinned (OpenSpec.ofChange Rows.progressAgreedSpec) :=
  OpenClaim.holds_of_wide 7 Try.f7 rfl rfl rfl rfl rfl rfl rfl ⟨rfl, rfl, rfl, rfl, rfl⟩ rfl rfl rfl rfl rfl (by kernel_rfl) Try.func7 (by kernel_rfl)
    (of_decide_eq_true (by kernel_rfl)) (by unfold Func.isWrapper; first | (rw [if_pos (by decide +kernel)]; kernel_rfl) | (rw [if_neg (by decide +kernel)]; exact ⟨rfl, rfl⟩))
    (fun os started H enc _ => lifted os started H enc)

/-- The statement. -/
theorem proved : Rows.ProgressAgreedSaid := over
#print axioms proved
end Go.Proofs.Ytibdjmmhdggpfaa.progressAgreed
