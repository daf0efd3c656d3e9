/-
  For every input curfewlaw32.PollOne returns true and leaves its arguments as they were. Conditions: none.
  (The frame of the row began as the shell that the kit's proof-skeleton.mjs writes; the walk is typed here.)
-/
import Derived.Test.YtibdjmmhdggpfaaRows
import Derived.Test.YtibdjmmhdggpfaaOneRel
import Derived.Deep.OwnRows
import Derived.WalkKit
import Derived.ProofKit
import Derived.OpenShut
import Derived.ShutString
import Derived.ChangeOld
import Derived.Below
namespace Go.Proofs.Ytibdjmmhdggpfaa.pollOne
open Go.ChangeShapes Go.WideShapes Go.ChangeAt Go.RowKit
open Go.ChangeMaps (open_string shut_string)
open Go.Proofs.YtibdjmmhdggpfaaW.PrintWords
open Go.Proofs.YtibdjmmhdggpfaaW.PrintMore
open Go.Proofs.Ytibdjmmhdggpfaa.pure
set_option linter.unusedVariables false

theorem own : ownKnob Try.prog.godebug = none := by kernel_rfl
theorem laidOut : laidOutB Try.prog = true := by kernel_rfl

set_option maxRecDepth 100000 in
set_option maxHeartbeats 1600000 in
theorem walk_main (A1 : Option Addr) (c1 : Nat) (a : List Int) (A2 : Option Addr) (c2 : Nat) (b : List Int) (a2 : Option Addr) (len2 cap2 : Nat) (a3 : Option Addr) (len3 cap3 : Nat) (w : World)
    (hc1 : a.length ≤ c1) (h1 : IntC w A1 a) (hc2 : b.length ≤ c2) (h2 : IntC w A2 b) (hi : IsSaid w a2 len2) (hb : IsBools w a3 len3) (hn : near a b = true) (h3 : (len2 : Int) ≤ 60) (sm : Int) (hwr : IntKind.i64.wrap ((a.length : Int) + (b.length : Int)) = sm) (h4 : sm ≤ 40) :
    Calls Try.prog 5 #[.slice A1 a.length c1, .slice A2 b.length c2, .slice a2 len2 cap2, .slice a3 len3 cap3] w fun e w' => e = .returned (.bool true) ∧ Below w.heap.size w w' := by
  have hab : snd a = true ∧ snd b = true := by unfold near at hn; simp only [Bool.and_eq_true] at hn; exact ⟨hn.1, hn.2.1⟩
  have la := (snd_length hab.1).2
  have lb := (snd_length hab.2).2
  have HR := Lib.hid (rnear w A1 A2 c1 c2 a b h1 hc1 h2 hc2 (by omega) (by omega))
  rw [hn] at HR
  have HN1 := fun w1 hb => Lib.hid (new_ok w1 A1 c1 a (h1.below hb) hc1 (by omega) hab.1)
  have HN2 := fun w1 hb => Lib.hid (new_ok w1 A2 c2 b (h2.below hb) hc2 (by omega) hab.2)
  have HI := Lib.hid hi
  have HB := Lib.hid hb
  have HNr := Lib.hid hn
  clear hi hb hn h1 h2 hab
  go_enter Try.func5, Try.ntmps5
  go_wp2_with (first
    | (go_at_call 21; (refine HR.out.mono ?_); rintro e w1 ⟨rfl, hb⟩)
    | (go_at_call 12; (with_reducible refine (HN1 _ hb).out.mono ?_); rintro e w2 ⟨p, pm, Ap, cp, rfl, HP, hb2, hl1, hl2, hl3⟩; have hb2' := hb.trans (hb2.mono hb.size))
    | (go_at_call 12; (with_reducible refine (HN2 _ hb2').out.mono ?_); rintro e w3 ⟨q, qm, Aq, cq, rfl, HQ, hb3, hm1, hm2, hm3⟩))
  have hb23 : Below w.heap.size w w3 := hb2'.trans (hb3.mono hb2'.size)
  have O0 := One.start (HP.below hb3) HQ hb23 (by have := hb.size; omega) (by have := hb2'.size; omega) (by have := HP.map.lt; omega)
  generalize w3.heap.size = tp at O0 ⊢
  generalize (w3.alloc (.cells #[.bool false, .bool false, .bool false, .bool false, .bool false, .bool false, .bool false] 42)).alloc (.cells #[.bool false, .bool false, .bool false, .bool false, .bool false, .bool false, .bool false] 42) = w4 at O0 ⊢
  clear HP HQ hb hb2 hb3 hb2' hb23 hl1 hl2 hl3 hm1 hm2 hm3 HR HN1 HN2
  go_loopw [39] (fun i wr => ∃ k : Nat, i = .int .i64 k ∧ k ≤ len2 ∧ ∃ sp sq fp fq, One w p pm Ap cp a q qm Aq cq b tp (tp + 1) sp sq fp fq wr) (fun i _ => len2 - (intOf i).toNat)
  case atStart => exact ⟨0, rfl, Nat.zero_le _, _, _, _, _, O0⟩
  case round =>
    clear O0
    obtain ⟨k, rfl, hk, sp, sq, fp, fq, O⟩ := hrel
    by_cases hlt : k < len2
    · obtain ⟨b1, o1, x, ok, rfl, hc0, hc1⟩ := HI.out.2 k hlt
      have hb1 : b1 < w.heap.size := World.block_lt_of_cell? _ _ hc0
      have d0 := (O.P.bel.cell (p := ⟨b1, o1 + k * 2, none⟩) hb1).trans hc0
      have d1 := (O.P.bel.cell (p := ⟨b1, o1 + k * 2 + 1, none⟩) hb1).trans hc1
      clear hc0 hc1
      have OA := O.below (alloc_below wr (.cells #[.int .i64 x, .bool ok] 31))
      by_cases hx0 : x < 0
      · clear O
        go_wp2_with (fail)
        go_roundw
        case rel => exact ⟨k + 1, by go_num, hlt, _, _, _, _, OA⟩
        case measure => simp [intOf]; omega
      by_cases hx6 : 6 < x
      · clear O
        go_wp2_with (fail)
        go_roundw
        case rel => exact ⟨k + 1, by go_num, hlt, _, _, _, _, OA⟩
        case measure => simp [intOf]; omega
      obtain ⟨n, rfl⟩ : ∃ n : Nat, x = (n : Int) := ⟨x.toNat, by omega⟩
      have hn7 : n < 7 := by omega
      have tpc := O.tP.cell n hn7
      have tqc := O.tQ.cell n hn7
      have tpf := O.tP.free n
      have tqf := O.tQ.free n
      have tpl := blk_lt O.tP
      have tql := blk_lt O.tQ
      by_cases hf : k < len3
      · obtain ⟨b3, o3, v, rfl, hv⟩ := HB.out.2 k hf
        have hb3 : b3 < w.heap.size := World.block_lt_of_cell? _ _ hv
        have d3 := (OA.P.bel.cell (p := ⟨b3, o3 + k, none⟩) hb3).trans hv
        clear hv
        cases v with
        | true =>
          cases ok with
          | true =>
            rcases hx : fq n with _ | _
            · rw [hx] at tqc
              have HX := Lib.hid hx
              clear hx
              rcases ho : fp n with _ | _
              · rw [ho] at tpc
                clear ho
                have OP := Lib.hid ((O.put n hn7 true (fun _ => rfl) (fun _ => HX.out)).below (alloc_below _ (.cells #[.int .i64 n, .bool true] 31))).drew
                go_wp2_with (fail)
                go_region
                all_goals
                  go_wp2_with (go_at_call 15; (with_reducible refine (pnotes _ p pm Ap cp a sp OP.out.P.at_ n true).mono ?_); rintro e w5 ⟨rfl, HP5, hg5⟩; have O5 := OP.out.noted n true (by simp [upd]) HP5 hg5; clear OP HP5 hg5)
                all_goals
                  go_roundw
                  case rel => exact ⟨k + 1, by go_num, hlt, _, _, _, _, O5⟩
                  case measure => simp [intOf]; omega
              · rw [ho] at tpc
                clear ho
                have OP := Lib.hid ((O.put n hn7 true (fun _ => rfl) (fun _ => HX.out)).below (alloc_below _ (.cells #[.int .i64 n, .bool true] 31))).drew
                go_wp2_with (fail)
                go_region
                all_goals
                  go_wp2_with (go_at_call 15; (with_reducible refine (pnotes _ p pm Ap cp a sp OP.out.P.at_ n true).mono ?_); rintro e w5 ⟨rfl, HP5, hg5⟩; have O5 := OP.out.noted n true (by simp [upd]) HP5 hg5; clear OP HP5 hg5)
                all_goals
                  go_roundw
                  case rel => exact ⟨k + 1, by go_num, hlt, _, _, _, _, O5⟩
                  case measure => simp [intOf]; omega
            · rw [hx] at tqc
              clear hx
              go_wp2_with (fail)
              go_roundw
              case rel => exact ⟨k + 1, by go_num, hlt, _, _, _, _, OA⟩
              case measure => simp [intOf]; omega
          | false =>
            rcases ho : fp n with _ | _
            · rw [ho] at tpc
              have HO := Lib.hid ho
              clear ho
              have OP := Lib.hid ((O.put n hn7 false (fun e => by rw [HO.out] at e; cases e) (fun e => by cases e)).below (alloc_below _ (.cells #[.int .i64 n, .bool false] 31))).drew
              go_wp2_with (fail)
              go_region
              all_goals
                go_wp2_with (go_at_call 15; (with_reducible refine (pnotes _ p pm Ap cp a sp OP.out.P.at_ n false).mono ?_); rintro e w5 ⟨rfl, HP5, hg5⟩; have O5 := OP.out.noted n false (by simp [upd]) HP5 hg5; clear OP HP5 hg5)
              all_goals
                go_roundw
                case rel => exact ⟨k + 1, by go_num, hlt, _, _, _, _, O5⟩
                case measure => simp [intOf]; omega
            · rw [ho] at tpc
              have HO := Lib.hid ho
              clear ho
              have OP := Lib.hid ((O.put n hn7 true (fun _ => rfl) (fun _ => Bool.eq_false_iff.2 (fun e => OA.dis n ⟨HO.out, e⟩))).below (alloc_below _ (.cells #[.int .i64 n, .bool false] 31))).drew
              go_wp2_with (fail)
              go_region
              all_goals
                go_wp2_with (go_at_call 15; (with_reducible refine (pnotes _ p pm Ap cp a sp OP.out.P.at_ n false).mono ?_); rintro e w5 ⟨rfl, HP5, hg5⟩; have O5 := OP.out.noted n false (by simp [upd]) HP5 hg5; clear OP HP5 hg5)
              all_goals
                go_roundw
                case rel => exact ⟨k + 1, by go_num, hlt, _, _, _, _, O5⟩
                case measure => simp [intOf]; omega
        | false =>
          cases ok with
          | true =>
            rcases hx : fp n with _ | _
            · rw [hx] at tpc
              have HX := Lib.hid hx
              clear hx
              rcases ho : fq n with _ | _
              · rw [ho] at tqc
                clear ho
                have OP := Lib.hid ((O.swap.put n hn7 true (fun _ => rfl) (fun _ => HX.out)).below (alloc_below _ (.cells #[.int .i64 n, .bool true] 31))).drew
                go_wp2_with (fail)
                go_region
                all_goals
                  go_wp2_with (go_at_call 15; (with_reducible refine (pnotes _ q qm Aq cq b sq OP.out.P.at_ n true).mono ?_); rintro e w5 ⟨rfl, HP5, hg5⟩; have O5 := OP.out.noted n true (by simp [upd]) HP5 hg5; clear OP HP5 hg5)
                all_goals
                  go_roundw
                  case rel => exact ⟨k + 1, by go_num, hlt, _, _, _, _, O5.swap⟩
                  case measure => simp [intOf]; omega
              · rw [ho] at tqc
                clear ho
                have OP := Lib.hid ((O.swap.put n hn7 true (fun _ => rfl) (fun _ => HX.out)).below (alloc_below _ (.cells #[.int .i64 n, .bool true] 31))).drew
                go_wp2_with (fail)
                go_region
                all_goals
                  go_wp2_with (go_at_call 15; (with_reducible refine (pnotes _ q qm Aq cq b sq OP.out.P.at_ n true).mono ?_); rintro e w5 ⟨rfl, HP5, hg5⟩; have O5 := OP.out.noted n true (by simp [upd]) HP5 hg5; clear OP HP5 hg5)
                all_goals
                  go_roundw
                  case rel => exact ⟨k + 1, by go_num, hlt, _, _, _, _, O5.swap⟩
                  case measure => simp [intOf]; omega
            · rw [hx] at tpc
              clear hx
              go_wp2_with (fail)
              go_roundw
              case rel => exact ⟨k + 1, by go_num, hlt, _, _, _, _, OA⟩
              case measure => simp [intOf]; omega
          | false =>
            rcases ho : fq n with _ | _
            · rw [ho] at tqc
              have HO := Lib.hid ho
              clear ho
              have OP := Lib.hid ((O.swap.put n hn7 false (fun e => by rw [HO.out] at e; cases e) (fun e => by cases e)).below (alloc_below _ (.cells #[.int .i64 n, .bool false] 31))).drew
              go_wp2_with (fail)
              go_region
              all_goals
                go_wp2_with (go_at_call 15; (with_reducible refine (pnotes _ q qm Aq cq b sq OP.out.P.at_ n false).mono ?_); rintro e w5 ⟨rfl, HP5, hg5⟩; have O5 := OP.out.noted n false (by simp [upd]) HP5 hg5; clear OP HP5 hg5)
              all_goals
                go_roundw
                case rel => exact ⟨k + 1, by go_num, hlt, _, _, _, _, O5.swap⟩
                case measure => simp [intOf]; omega
            · rw [ho] at tqc
              have HO := Lib.hid ho
              clear ho
              have OP := Lib.hid ((O.swap.put n hn7 true (fun _ => rfl) (fun _ => Bool.eq_false_iff.2 (fun e => OA.dis n ⟨e, HO.out⟩))).below (alloc_below _ (.cells #[.int .i64 n, .bool false] 31))).drew
              go_wp2_with (fail)
              go_region
              all_goals
                go_wp2_with (go_at_call 15; (with_reducible refine (pnotes _ q qm Aq cq b sq OP.out.P.at_ n false).mono ?_); rintro e w5 ⟨rfl, HP5, hg5⟩; have O5 := OP.out.noted n false (by simp [upd]) HP5 hg5; clear OP HP5 hg5)
              all_goals
                go_roundw
                case rel => exact ⟨k + 1, by go_num, hlt, _, _, _, _, O5.swap⟩
                case measure => simp [intOf]; omega
      · cases ok with
        | true =>
          rcases hx : fp n with _ | _
          · rw [hx] at tpc
            have HX := Lib.hid hx
            clear hx
            rcases ho : fq n with _ | _
            · rw [ho] at tqc
              clear ho
              have OP := Lib.hid ((O.swap.put n hn7 true (fun _ => rfl) (fun _ => HX.out)).below (alloc_below _ (.cells #[.int .i64 n, .bool true] 31))).drew
              go_wp2_with (fail)
              go_region
              all_goals
                go_wp2_with (go_at_call 15; (with_reducible refine (pnotes _ q qm Aq cq b sq OP.out.P.at_ n true).mono ?_); rintro e w5 ⟨rfl, HP5, hg5⟩; have O5 := OP.out.noted n true (by simp [upd]) HP5 hg5; clear OP HP5 hg5)
              all_goals
                go_roundw
                case rel => exact ⟨k + 1, by go_num, hlt, _, _, _, _, O5.swap⟩
                case measure => simp [intOf]; omega
            · rw [ho] at tqc
              clear ho
              have OP := Lib.hid ((O.swap.put n hn7 true (fun _ => rfl) (fun _ => HX.out)).below (alloc_below _ (.cells #[.int .i64 n, .bool true] 31))).drew
              go_wp2_with (fail)
              go_region
              all_goals
                go_wp2_with (go_at_call 15; (with_reducible refine (pnotes _ q qm Aq cq b sq OP.out.P.at_ n true).mono ?_); rintro e w5 ⟨rfl, HP5, hg5⟩; have O5 := OP.out.noted n true (by simp [upd]) HP5 hg5; clear OP HP5 hg5)
              all_goals
                go_roundw
                case rel => exact ⟨k + 1, by go_num, hlt, _, _, _, _, O5.swap⟩
                case measure => simp [intOf]; omega
          · rw [hx] at tpc
            clear hx
            go_wp2_with (fail)
            go_roundw
            case rel => exact ⟨k + 1, by go_num, hlt, _, _, _, _, OA⟩
            case measure => simp [intOf]; omega
        | false =>
          rcases ho : fq n with _ | _
          · rw [ho] at tqc
            have HO := Lib.hid ho
            clear ho
            have OP := Lib.hid ((O.swap.put n hn7 false (fun e => by rw [HO.out] at e; cases e) (fun e => by cases e)).below (alloc_below _ (.cells #[.int .i64 n, .bool false] 31))).drew
            go_wp2_with (fail)
            go_region
            all_goals
              go_wp2_with (go_at_call 15; (with_reducible refine (pnotes _ q qm Aq cq b sq OP.out.P.at_ n false).mono ?_); rintro e w5 ⟨rfl, HP5, hg5⟩; have O5 := OP.out.noted n false (by simp [upd]) HP5 hg5; clear OP HP5 hg5)
            all_goals
              go_roundw
              case rel => exact ⟨k + 1, by go_num, hlt, _, _, _, _, O5.swap⟩
              case measure => simp [intOf]; omega
          · rw [ho] at tqc
            have HO := Lib.hid ho
            clear ho
            have OP := Lib.hid ((O.swap.put n hn7 true (fun _ => rfl) (fun _ => Bool.eq_false_iff.2 (fun e => OA.dis n ⟨e, HO.out⟩))).below (alloc_below _ (.cells #[.int .i64 n, .bool false] 31))).drew
            go_wp2_with (fail)
            go_region
            all_goals
              go_wp2_with (go_at_call 15; (with_reducible refine (pnotes _ q qm Aq cq b sq OP.out.P.at_ n false).mono ?_); rintro e w5 ⟨rfl, HP5, hg5⟩; have O5 := OP.out.noted n false (by simp [upd]) HP5 hg5; clear OP HP5 hg5)
            all_goals
              go_roundw
              case rel => exact ⟨k + 1, by go_num, hlt, _, _, _, _, O5.swap⟩
              case measure => simp [intOf]; omega
    · have hend := O.end HNr.out
      have HS1 := fun w1 h => Lib.hid (pstate w1 p pm Ap cp a sp (cd sp) h)
      have HS2 := fun w1 h => Lib.hid (pstate w1 q qm Aq cq b sq (cd sq) h)
      by_cases e1 : state a sp = 2
      · have e2 : state b sq ≠ 2 := fun e2 => hend ⟨e1, e2⟩
        generalize state b sq = s2 at HS2 e2
        rw [e1] at HS1
        have hb2 : (s2 == 2) = false := by simpa using e2
        clear hend e1
        go_wp2_with (first
          | (go_at_call 16; (with_reducible refine (HS1 _ O.P.at_).out.mono ?_); rintro e w5 ⟨rfl, hb5⟩; have O5 := O.below hb5)
          | (go_at_call 16; (with_reducible refine (HS2 _ O5.Q.at_).out.mono ?_); rintro e w6 ⟨rfl, hb6⟩; have O6 := O5.below hb6)
          | (go_at_call 11; (refine (lives_true _).mono ?_); rintro e w7 ⟨rfl, hb7⟩))
        go_ret
        exact ⟨rfl, O6.P.bel.trans (hb7.mono O6.P.bel.size)⟩
      · generalize state a sp = s1 at HS1 e1
        have hb1 : (s1 == 2) = false := by simpa using e1
        clear hend
        go_wp2_with (first
          | (go_at_call 16; (with_reducible refine (HS1 _ O.P.at_).out.mono ?_); rintro e w5 ⟨rfl, hb5⟩; have O5 := O.below hb5)
          | (go_at_call 11; (refine (lives_true _).mono ?_); rintro e w7 ⟨rfl, hb7⟩))
        go_ret
        exact ⟨rfl, O5.P.bel.trans (hb7.mono O5.P.bel.size)⟩

theorem walk_lives (A1 : Option Addr) (c1 : Nat) (a : List Int) (A2 : Option Addr) (c2 : Nat) (b : List Int) (a2 : Option Addr) (len2 cap2 : Nat) (a3 : Option Addr) (len3 cap3 : Nat) (w : World)
    (hc1 : a.length ≤ c1) (h1 : IntC w A1 a) (hc2 : b.length ≤ c2) (h2 : IntC w A2 b) (hm : a.length ≤ 9223372036854775807) (hm' : b.length ≤ 9223372036854775807) (sm : Int) (hwr : IntKind.i64.wrap ((a.length : Int) + (b.length : Int)) = sm) (h : 40 < sm ∨ 60 < (len2 : Int) ∨ near a b = false) :
    Calls Try.prog 5 #[.slice A1 a.length c1, .slice A2 b.length c2, .slice a2 len2 cap2, .slice a3 len3 cap3] w fun e w' => e = .returned (.bool true) ∧ Below w.heap.size w w' := by
  have HR := Lib.hid (rnear w A1 A2 c1 c2 a b h1 hc1 h2 hc2 hm hm')
  clear h1 h2
  by_cases e1 : 40 < sm
  · clear h HR
    go_enter Try.func5, Try.ntmps5
    go_wp2_with (go_at_call 11; refine (lives_true _).mono ?_; rintro e w' ⟨rfl, hn⟩)
    go_ret
    exact ⟨rfl, hn⟩
  · by_cases e2 : 60 < (len2 : Int)
    · clear h HR
      go_enter Try.func5, Try.ntmps5
      go_wp2_with (go_at_call 11; refine (lives_true _).mono ?_; rintro e w' ⟨rfl, hn⟩)
      go_ret
      exact ⟨rfl, hn⟩
    · rw [(h.resolve_left e1).resolve_left e2] at HR
      clear h
      go_enter Try.func5, Try.ntmps5
      go_wp2_with (first
        | (go_at_call 21; (refine HR.out.mono ?_); rintro e w1 ⟨rfl, hb⟩)
        | (go_at_call 11; refine (lives_true _).mono ?_; rintro e w' ⟨rfl, hn⟩))
      go_ret
      exact ⟨rfl, hb.trans (hn.mono hb.size)⟩

theorem walk (a0 : Option Addr) (c0 : Nat) (z0 : List Int) (a1 : Option Addr) (c1 : Nat) (z1 : List Int) (a2 : Option Addr) (len2 cap2 : Nat) (a3 : Option Addr) (len3 cap3 : Nat) (w : World) (hc : z0.length ≤ c0) (hl : IntC w a0 z0) (hm : z0.length ≤ 9223372036854775807)
    (hc' : z1.length ≤ c1) (hl' : IntC w a1 z1) (hm' : z1.length ≤ 9223372036854775807) (hi : IsSaid w a2 len2) (hb : IsBools w a3 len3) :
    Calls Try.prog 5 #[.slice a0 z0.length c0, .slice a1 z1.length c1, .slice a2 len2 cap2, .slice a3 len3 cap3] w fun e w' => e = .returned (.bool true) ∧ Below w.heap.size w w' := by
  by_cases h : 40 < IntKind.i64.wrap ((z0.length : Int) + (z1.length : Int)) ∨ 60 < (len2 : Int) ∨ near z0 z1 = false
  · exact walk_lives a0 c0 z0 a1 c1 z1 a2 len2 cap2 a3 len3 cap3 w hc hl hc' hl' hm hm' _ rfl h
  · have h3 : near z0 z1 = true := by
      rcases hs : near z0 z1 with _ | _
      · exact absurd (.inr (.inr hs)) h
      · rfl
    exact walk_main a0 c0 z0 a1 c1 z1 a2 len2 cap2 a3 len3 cap3 w hc hl hc' hl' hi hb h3 (by omega) _ rfl (by omega)

/-! ### The row's step -/
set_option maxRecDepth 100000 in
theorem lifted (os : Os) (started : os.Started) (H : Type) (enc : TypeId × Value → H) :
    ReturnsInHanded {} Try.checked os 5 .any (Rows.pollOneSpec.pre6 enc Try.prog Try.f5 Rows.pollOneRow.domain false) (Rows.pollOneSpec.post enc Try.prog Try.f5 false true false false) := by
  refine returnsInHanded_of_change (C := Try.checked) own started (by kernel_rfl) Try.func5
    (ChangeSpec.witness6 (enc := enc) (C := Try.checked) false ⟨#[], #[.slice none 0 0, .slice none 0 0, .slice none 0 0, .slice none 0 0], []⟩ 8 (by kernel_rfl) (by kernel_rfl) (by kernel_rfl) (by kernel_rfl)) ?_
  intro W base args ds gs before hval0 hW hcnd _
  have hval : ∀ (j : Nat) t v, Try.f5.params[j]? = some t → args[j]? = some v → Value.okWide Try.prog W .any base t v := hval0
  have hW' := hW
  obtain ⟨p, q, hA0, hV, rfl, hfz, hnd⟩ := hW
  have hA : DataW.TrodAll enc Try.prog W 0 (fun _ => true) true Try.f5.params.toList args.toList ds p := hA0
  rw [Try.params5] at hA hval
  obtain ⟨v0, vs0, d0, ds0, p0, q0, hargs, rfl, rfl, h0, r0⟩ := trodAll_cons hA
  obtain ⟨v1, vs1, d1, ds1, p1, q1, rfl, rfl, rfl, h1, r1⟩ := trodAll_cons r0
  obtain ⟨v2, vs2, d2, ds2, p2, q2, rfl, rfl, rfl, h2, r2⟩ := trodAll_cons r1
  obtain ⟨v3, vs3, d3, ds3, p3, q3, rfl, rfl, rfl, h3, r3⟩ := trodAll_cons r2
  obtain ⟨rfl, rfl, rfl⟩ := trodAll_nil r3
  obtain rfl : args = #[v0, v1, v2, v3] := by cases args; simp_all
  obtain ⟨rfl, rfl⟩ := trodVars_none hV
  obtain ⟨a0, len0, cap0, rfl⟩ := okWide_slice Try.underlying22 (hval 0 22 v0 rfl rfl)
  have k0 := h0
  have lt0 : ∀ x ∈ p0, x.block < W.heap.size := by obtain ⟨m, hm⟩ := k0; exact DataW.trod_lt m _ _ _ hm
  obtain ⟨z0, rfl, hc0, hz0, hm0⟩ := (show ∃ l : List Int, l.length = len0 ∧ l.length ≤ cap0 ∧ IntC W a0 l ∧ l.length ≤ 9223372036854775807 by obtain ⟨fuel, hf⟩ := h0; exact ints_in hf)
  obtain ⟨a1, len1, cap1, rfl⟩ := okWide_slice Try.underlying22 (hval 1 22 v1 rfl rfl)
  have k1 := h1
  have lt1 : ∀ x ∈ p1, x.block < W.heap.size := by obtain ⟨m, hm⟩ := k1; exact DataW.trod_lt m _ _ _ hm
  obtain ⟨z1, rfl, hc1, hz1, hm1⟩ := (show ∃ l : List Int, l.length = len1 ∧ l.length ≤ cap1 ∧ IntC W a1 l ∧ l.length ≤ 9223372036854775807 by obtain ⟨fuel, hf⟩ := h1; exact ints_in hf)
  obtain ⟨a2, len2, cap2, rfl⟩ := okWide_slice Try.underlying23 (hval 2 23 v2 rfl rfl)
  have k2 := h2
  have lt2 : ∀ x ∈ p2, x.block < W.heap.size := by obtain ⟨m, hm⟩ := k2; exact DataW.trod_lt m _ _ _ hm
  have hops2 : IsSaid W a2 len2 := by obtain ⟨fuel, hf⟩ := h2; exact isSaid hf
  obtain ⟨a3, len3, cap3, rfl⟩ := okWide_slice Try.underlying41 (hval 3 41 v3 rfl rfl)
  have k3 := h3
  have lt3 : ∀ x ∈ p3, x.block < W.heap.size := by obtain ⟨m, hm⟩ := k3; exact DataW.trod_lt m _ _ _ hm
  have hops3 : IsBools W a3 len3 := by obtain ⟨fuel, hf⟩ := h3; exact isBools hf
  clear hA0 hval0
  refine (walk a0 cap0 z0 a1 cap1 z1 a2 len2 cap2 a3 len3 cap3 W hc0 hz0 hm0 hc1 hz1 hm1 hops2 hops3).mono fun e W' ⟨he, bel⟩ => ?_
  subst he
  exact ⟨_, rfl, _, _, _, [], _, [], hW', trodAll_mk1 (shut_bool Try.underlying4 _), (trodAll_cons_mk (Below.trod laidOut (by kernel_rfl) (of_decide_eq_true (by kernel_rfl)) k0 bel lt0) (trodAll_cons_mk (Below.trod laidOut (by kernel_rfl) (of_decide_eq_true (by kernel_rfl)) k1 bel lt1) (trodAll_cons_mk (Below.trod laidOut (by kernel_rfl) (of_decide_eq_true (by kernel_rfl)) k2 bel lt2) (trodAll_cons_mk (Below.trod laidOut (by kernel_rfl) (of_decide_eq_true (by kernel_rfl)) k3 bel lt3) trodAll_mk0)))), rfl, bel.frame _, fun h => by cases h⟩

theorem over : Rows.pollOneRow.holds Try.pinned (OpenSpec.ofChange Rows.pollOneSpec) :=
  OpenClaim.holds_of_wide 5 Try.f5 rfl rfl rfl rfl rfl rfl rfl ⟨rfl, rfl, rfl, rfl, rfl⟩ rfl rfl rfl rfl rfl (by kernel_rfl) Try.func5 (by kernel_rfl)
    (of_decide_eq_true (by kernel_rfl)) (by unfold Func.isWrapper; first | (rw [if_pos (by decide +kernel)]; kernel_rfl) | (rw [if_neg (by decide +kernel)]; exact ⟨rfl, rfl⟩))
    (fun os started H enc _ => lifted os started H enc)

/-- The statement. -/
theorem proved : Rows.PollOneSaid := over
#print axioms proved
end Go.Proofs.Ytibdjmmhdggpfaa.pollOne
