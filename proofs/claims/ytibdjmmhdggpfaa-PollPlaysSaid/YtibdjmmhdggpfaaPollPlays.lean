/-
  For every input curfewlaw32.PollPlays returns true and leaves its arguments as they were. Conditions: none.
  (The frame of the row began as the shell that the kit's proof-skeleton.mjs writes; the walk is typed here.)
-/
import Derived.Test.YtibdjmmhdggpfaaRows
import Derived.Test.YtibdjmmhdggpfaaPlaysRel
import Derived.Deep.OwnRows
import Derived.WalkKit
import Derived.ProofKit
import Derived.OpenShut
import Derived.ShutString
import Derived.ChangeOld
import Derived.Below
namespace Go.Proofs.Ytibdjmmhdggpfaa.pollPlays
open Go.ChangeShapes Go.WideShapes Go.ChangeAt Go.RowKit
open Go.ChangeMaps (open_string shut_string)
open Go.Proofs.YtibdjmmhdggpfaaW.PrintWords
open Go.Proofs.YtibdjmmhdggpfaaW.PrintMore
open Go.Proofs.Ytibdjmmhdggpfaa.pure
set_option linter.unusedVariables false

theorem own : ownKnob Try.prog.godebug = none := by kernel_rfl
theorem laidOut : laidOutB Try.prog = true := by kernel_rfl

theorem walk_lives (A : Option Addr) (c : Nat) (l : List Int) (a1 : Option Addr) (len1 cap1 : Nat) (w : World)
    (h : 40 < (l.length : Int) ∨ 60 < (len1 : Int)) :
    Calls Try.prog 3 #[.slice A l.length c, .slice a1 len1 cap1] w fun e w' => e = .returned (.bool true) ∧ Below w.heap.size w w' := by
  by_cases c1 : 40 < (l.length : Int)
  · clear h
    go_enter Try.func3, Try.ntmps3
    go_wp2_with (go_at_call 11; refine (lives_true _).mono ?_; rintro e w' ⟨rfl, hn⟩)
    go_ret
    exact ⟨rfl, hn⟩
  · have c2 : 60 < (len1 : Int) := h.resolve_left c1
    clear h
    go_enter Try.func3, Try.ntmps3
    go_wp2_with (go_at_call 11; refine (lives_true _).mono ?_; rintro e w' ⟨rfl, hn⟩)
    go_ret
    exact ⟨rfl, hn⟩

theorem walk_none (A : Option Addr) (c : Nat) (l : List Int) (a1 : Option Addr) (len1 cap1 : Nat) (w : World) (hc : l.length ≤ c) (hl : IntC w A l)
    (h1 : (l.length : Int) ≤ 40) (h2 : (len1 : Int) ≤ 60) (h3 : snd l = false) :
    Calls Try.prog 3 #[.slice A l.length c, .slice a1 len1 cap1] w fun e w' => e = .returned (.bool true) ∧ Below w.heap.size w w' := by
  have HS := fun w1 hb => Lib.hid (rsound w1 A c l (hl.below hb) hc)
  rw [h3] at HS
  have HN := Lib.hid (new_no w A c l hl hc (by omega) h3)
  clear hl h3
  go_enter Try.func3, Try.ntmps3
  go_wp2_with (first
    | (go_at_call 12; (refine HN.out.mono ?_); rintro e w1 ⟨rfl, hb⟩)
    | (go_at_call 13; (with_reducible refine (HS _ hb).out.mono ?_); rintro e w2 ⟨rfl, hb2⟩)
    | (go_at_call 11; refine (lives_true _).mono ?_; rintro e w3 ⟨rfl, hb3⟩))
  go_ret
  have b2 := hb.trans (hb2.mono hb.size)
  exact ⟨rfl, b2.trans (hb3.mono b2.size)⟩

theorem start_doc (w : World) (A0 : Option Addr) (c0 : Nat) (mem : List Int) (hc : mem.length ≤ c0) (h : IntC w A0 mem) :
    Doc (w.alloc (.cells #[.slice A0 mem.length c0, .slice none 0 0, .slice none 0 0] 29)) w.heap.size A0 c0 mem none 0 none 0 (fun _ => 0) := by
  have e1 : who (fun _ => 0) 1 = [] := who_none 1 (by decide)
  have e2 : who (fun _ => 0) 2 = [] := who_none 2 (by decide)
  refine ⟨?_, h.below (alloc_below _ _), ?_, ?_, hc, ?_, ?_⟩
  · rw [e1, e2]
    exact heap_alloc_new _ _
  · rw [e1]; exact IntC.nil
  · rw [e2]; exact IntC.nil
  · rw [e1]; simp
  · rw [e2]; simp

set_option maxRecDepth 100000 in
set_option maxHeartbeats 1600000 in
theorem walk_main (A : Option Addr) (c : Nat) (l : List Int) (a1 : Option Addr) (len1 cap1 : Nat) (w : World) (hc : l.length ≤ c) (hl : IntC w A l) (hi1 : IsSaid w a1 len1)
    (h1 : (l.length : Int) ≤ 40) (h2 : (len1 : Int) ≤ 60) (h3 : snd l = true) :
    Calls Try.prog 3 #[.slice A l.length c, .slice a1 len1 cap1] w fun e w' => e = .returned (.bool true) ∧ Below w.heap.size w w' := by
  have HS := fun w1 hb => Lib.hid (rsound w1 A c l (hl.below hb) hc)
  rw [h3] at HS
  have HN := Lib.hid (new_ok w A c l hl hc (by omega) h3)
  have HT := Lib.hid h3
  have HI1 := Lib.hid hi1
  have HL := Lib.hid hl
  clear hl h3 hi1
  go_enter Try.func3, Try.ntmps3
  go_wp2_with (first
    | (go_at_call 12; (refine HN.out.mono ?_); rintro e w2 ⟨b, bm, A2, c2, rfl, HP, hb2, hl1, hl2, hl3⟩)
    | (go_at_call 13; (with_reducible refine (HS _ hb2).out.mono ?_); rintro e w3 ⟨rfl, hb3⟩))
  have hb23 := hb2.trans (hb3.mono hb2.size)
  have D0 := start_doc w3 A c l hc (HL.out.below hb23)
  have hgs : w.heap.size ≤ w3.heap.size := hb23.size
  have R0 : Rel w b bm A2 c2 l (fun _ => 0) (w3.alloc (.cells #[.slice A l.length c, .slice none 0 0, .slice none 0 0] 29)) :=
    ⟨((HP.any_kept (w' := w2) (Nat.zero_le _)).below hb3).below (alloc_below _ _), hb23.alloc hgs _, hl2⟩
  generalize hgw : w3.heap.size = gw at D0 hgs ⊢
  clear HP hb2 hl1 hl2 hl3 HS HN hb3 hb23 hgw
  go_loopw [36] (fun i wr => ∃ k : Nat, i = .int .i64 k ∧ k ≤ len1 ∧ ∃ said A1 c1 A3 c3, Rel w b bm A2 c2 l said wr ∧ Doc wr gw A c l A1 c1 A3 c3 said) (fun i _ => len1 - (intOf i).toNat)
  case atStart => exact ⟨0, rfl, Nat.zero_le _, _, _, _, _, _, R0, D0⟩
  case round =>
    clear R0 D0
    obtain ⟨k, rfl, hk, said, A1, c1, A3, c3, R, D⟩ := hrel
    by_cases hlt : k < len1
    · obtain ⟨b1, o1, x, ok, rfl, hc0, hc1⟩ := HI1.out.2 k hlt
      have hb1 : b1 < w.heap.size := World.block_lt_of_cell? _ _ hc0
      have d0 := (R.bel.cell (p := ⟨b1, o1 + k * 2, none⟩) hb1).trans hc0
      have d1 := (R.bel.cell (p := ⟨b1, o1 + k * 2 + 1, none⟩) hb1).trans hc1
      have t0 := D.trio.c0
      have t1 := D.trio.c1
      have t2 := D.trio.c2
      have hgl := D.trio.lt
      clear hc0 hc1
      go_upto_region 14 with (first
        | (go_at_call 14; (with_reducible refine (rnote _ A A1 A3 c c1 c3 l said HT.out R.at_.ok (D.below (alloc_below _ _)).C0 D.h0 (D.below (alloc_below _ _)).C1 D.h1 (D.below (alloc_below _ _)).C3 D.h3 x ok).mono ?_); rintro e w4 hn; obtain ⟨A1', A3', c1', c3', rfl, hC1, hc1', hC3, hc3', hb4⟩ := hn; have D4 := (D.below (alloc_below _ _)).below hb4; have R4 := (R.below (alloc_below _ _)).below hb4; have t0' := D4.trio.c0; have t1' := D4.trio.c1; have t2' := D4.trio.c2; have f0' := D4.trio.f 0; have f1' := D4.trio.f 1; have f2' := D4.trio.f 2; have hgl4 := D4.trio.lt; clear t0 t1 t2 d0 d1 R D))
      have b1s := heap_alloc_new wr (.cells #[.int .i64 x, .bool ok] 31)
      have s4 : w4.heap[wr.heap.size]? = some (.cells #[.int .i64 x, .bool ok] 31 (0, 0)) := blk_below b1s hb4
      have hne : wr.heap.size ≠ gw := by omega
      have s5 := blk_alloc (blk_far (blk_far (blk_far s4 (p := ⟨gw, 0, none⟩) hne (.slice A l.length c)) (p := ⟨gw, 1, none⟩) hne (.slice A1' (who (say l said x ok) 1).length c1')) (p := ⟨gw, 2, none⟩) hne (.slice A3' (who (say l said x ok) 2).length c3'))
        (.cells #[.slice A l.length c, .slice A1' (who (say l said x ok) 1).length c1', .slice A3' (who (say l said x ok) 2).length c3'] 29)
      have D5 := (D4.put hC1 hc1' hC3 hc3').alloc (.cells #[.slice A l.length c, .slice A1' (who (say l said x ok) 1).length c1', .slice A3' (who (say l said x ok) 2).length c3'] 29)
      have R5 := (R4.put D4.trio (isSlice _ _ _) (isSlice _ _ _) (isSlice _ _ _) hgs (put_grown w4 gw (.slice A l.length c) (.slice A1' (who (say l said x ok) 1).length c1') (.slice A3' (who (say l said x ok) 2).length c3'))).below
        (alloc_below _ (.cells #[.slice A l.length c, .slice A1' (who (say l said x ok) 1).length c1', .slice A3' (who (say l said x ok) 2).length c3'] 29))
      generalize ((((w4.setCell ⟨gw, 0, none⟩ (.slice A l.length c)).setCell ⟨gw, 1, none⟩ (.slice A1' (who (say l said x ok) 1).length c1')).setCell ⟨gw, 2, none⟩ (.slice A3' (who (say l said x ok) 2).length c3')).alloc
        (.cells #[.slice A l.length c, .slice A1' (who (say l said x ok) 1).length c1', .slice A3' (who (say l said x ok) 2).length c3'] 29)) = w5 at s5 D5 R5 ⊢
      clear b1s s4 D4 R4 hb4 hC1 hc1' hC3 hc3' t0' t1' t2' f0' f1' f2' hgl hgl4
      have R5' := R5.drew
      have D5' := D5.drew
      have S5' := Lib.hid (show Says w5.drew wr.heap.size x ok from s5)
      have K5 := Lib.hid (five S5'.out D5'.trio)
      clear s5 R5 D5 hne
      have ho := say_ok R5'.at_.ok x ok
      have HO := Lib.hid ho
      clear ho
      generalize hs' : say l said x ok = said' at D5' K5 HO ⊢
      have HSy := Lib.hid hs'
      clear hs'
      go_region_held3 (fun W => W.cell? ⟨wr.heap.size, 0, none⟩ = some (.int .i64 x) ∧ W.cell? ⟨wr.heap.size, 1, none⟩ = some (.bool ok) ∧ W.cell? ⟨gw, 0, none⟩ = some (.slice A l.length c) ∧ W.cell? ⟨gw, 1, none⟩ = some (.slice A1' (who said' 1).length c1') ∧ W.cell? ⟨gw, 2, none⟩ = some (.slice A3' (who said' 2).length c3'))
        (first | exact K5.out | exact K6.out | exact K7.out | exact K8.out | exact K9.out | exact K10.out | exact K11.out | exact K12.out)
        (first
        | (go_at_call 15; (with_reducible refine (pnotes w5.drew b bm A2 c2 l said R5'.at_ x ok).mono ?_); rintro e w6 ⟨rfl, HP6, hg6⟩; rw [HSy.out] at HP6; have R6 := R5'.noted HP6 hg6; have D6 := D5'.store R5'.at_.map hg6; have S6 := Lib.hid (S5'.out.store R5'.at_.map hg6); have K6 := Lib.hid (five S6.out D6.trio); clear HP6 hg6)
        | (go_at_call 16; (with_reducible refine (pstate w6 b bm A2 c2 l said' _ R6.at_).mono ?_); rintro e w7 ⟨rfl, hb7⟩; have R7 := R6.below hb7; have D7 := D6.below hb7; have S7 := Lib.hid (S6.out.below hb7); have K7 := Lib.hid (five S7.out D7.trio); clear hb7)
        | (go_at_call 17; (with_reducible refine (rstate w7 A A1' A3' c c1' c3' l said' HT.out HO.out D7.C0 D7.h0 D7.C1 D7.h1 D7.C3 D7.h3).mono ?_); rintro e w8 ⟨rfl, hb8⟩; have R8 := R7.below hb8; have D8 := D7.below hb8; have S8 := Lib.hid (S7.out.below hb8); have K8 := Lib.hid (five S8.out D8.trio); clear hb8)
        | (go_at_call 19; (with_reducible refine (pyes w8 b bm A2 c2 l said' _ R8.at_).mono ?_); rintro e w9 ⟨v9, rfl, hv9, hb9⟩; obtain ⟨A9, c9, hv9e, hc9, hC9⟩ := hv9.reads; subst hv9e; have R9 := R8.below hb9; have D9 := D8.below hb9; have S9 := Lib.hid (S8.out.below hb9); have K9 := Lib.hid (five S9.out D9.trio); clear hb9)
        | (go_at_call 18; (with_reducible refine (same_who w9 A9 A1' c9 c1' said' 1 hC9 hc9 D9.C1 D9.h1).mono ?_); rintro e w10 ⟨rfl, hb10⟩; have R10 := R9.below hb10; have D10 := D9.below hb10; have S10 := Lib.hid (S9.out.below hb10); have K10 := Lib.hid (five S10.out D10.trio); clear hb10)
        | (go_at_call 20; (with_reducible refine (pno w10 b bm A2 c2 l said' _ R10.at_).mono ?_); rintro e w11 ⟨v11, rfl, hv11, hb11⟩; obtain ⟨A11, c11, hv11e, hc11, hC11⟩ := hv11.reads; subst hv11e; have R11 := R10.below hb11; have D11 := D10.below hb11; have S11 := Lib.hid (S10.out.below hb11); have K11 := Lib.hid (five S11.out D11.trio); clear hb11)
        | (go_at_call 18; (with_reducible refine (same_who w11 A11 A3' c11 c3' said' 2 hC11 hc11 D11.C3 D11.h3).mono ?_); rintro e w12 ⟨rfl, hb12⟩; have R12 := R11.below hb12; have D12 := D11.below hb12; have S12 := Lib.hid (S11.out.below hb12); have K12 := Lib.hid (five S12.out D12.trio); clear hb12))
      all_goals
        go_wp2
        go_roundw
        case rel => exact ⟨k + 1, by go_num, hlt, _, _, _, _, _, R12, D12⟩
        case measure => simp [intOf]; omega
    · go_wp2_with (go_at_call 11; (refine (lives_true _).mono ?_); rintro e w7 ⟨rfl, hb7⟩)
      go_ret
      exact ⟨rfl, R.bel.trans (hb7.mono R.bel.size)⟩

theorem walk (a0 : Option Addr) (c0 : Nat) (z0 : List Int) (a1 : Option Addr) (len1 cap1 : Nat) (w : World) (hc : z0.length ≤ c0) (hl : IntC w a0 z0) (hm : z0.length ≤ 9223372036854775807) (hi1 : IsSaid w a1 len1) :
    Calls Try.prog 3 #[.slice a0 z0.length c0, .slice a1 len1 cap1] w fun e w' => e = .returned (.bool true) ∧ Below w.heap.size w w' := by
  by_cases h : 40 < (z0.length : Int) ∨ 60 < (len1 : Int)
  · exact walk_lives a0 c0 z0 a1 len1 cap1 w h
  · rcases hs : snd z0 with _ | _
    · exact walk_none a0 c0 z0 a1 len1 cap1 w hc hl (by omega) (by omega) hs
    · exact walk_main a0 c0 z0 a1 len1 cap1 w hc hl hi1 (by omega) (by omega) hs

/-! ### The row's step -/
set_option maxRecDepth 100000 in
theorem lifted (os : Os) (started : os.Started) (H : Type) (enc : TypeId × Value → H) :
    ReturnsInHanded {} Try.checked os 3 .any (Rows.pollPlaysSpec.pre6 enc Try.prog Try.f3 Rows.pollPlaysRow.domain false) (Rows.pollPlaysSpec.post enc Try.prog Try.f3 false true false false) := by
  refine returnsInHanded_of_change (C := Try.checked) own started (by kernel_rfl) Try.func3
    (ChangeSpec.witness6 (enc := enc) (C := Try.checked) false ⟨#[], #[.slice none 0 0, .slice none 0 0], []⟩ 8 (by kernel_rfl) (by kernel_rfl) (by kernel_rfl) (by kernel_rfl)) ?_
  intro W base args ds gs before hval0 hW hcnd _
  have hval : ∀ (j : Nat) t v, Try.f3.params[j]? = some t → args[j]? = some v → Value.okWide Try.prog W .any base t v := hval0
  have hW' := hW
  obtain ⟨p, q, hA0, hV, rfl, hfz, hnd⟩ := hW
  have hA : DataW.TrodAll enc Try.prog W 0 (fun _ => true) true Try.f3.params.toList args.toList ds p := hA0
  rw [Try.params3] at hA hval
  obtain ⟨v0, vs0, d0, ds0, p0, q0, hargs, rfl, rfl, h0, r0⟩ := trodAll_cons hA
  obtain ⟨v1, vs1, d1, ds1, p1, q1, rfl, rfl, rfl, h1, r1⟩ := trodAll_cons r0
  obtain ⟨rfl, rfl, rfl⟩ := trodAll_nil r1
  obtain rfl : args = #[v0, v1] := by cases args; simp_all
  obtain ⟨rfl, rfl⟩ := trodVars_none hV
  obtain ⟨a0, len0, cap0, rfl⟩ := okWide_slice Try.underlying22 (hval 0 22 v0 rfl rfl)
  have k0 := h0
  have lt0 : ∀ x ∈ p0, x.block < W.heap.size := by obtain ⟨m, hm⟩ := k0; exact DataW.trod_lt m _ _ _ hm
  obtain ⟨z0, rfl, hc0, hz0, hm0⟩ := (show ∃ l : List Int, l.length = len0 ∧ l.length ≤ cap0 ∧ IntC W a0 l ∧ l.length ≤ 9223372036854775807 by obtain ⟨fuel, hf⟩ := h0; exact ints_in hf)
  obtain ⟨a1, len1, cap1, rfl⟩ := okWide_slice Try.underlying23 (hval 1 23 v1 rfl rfl)
  have k1 := h1
  have lt1 : ∀ x ∈ p1, x.block < W.heap.size := by obtain ⟨m, hm⟩ := k1; exact DataW.trod_lt m _ _ _ hm
  have hops1 : IsSaid W a1 len1 := by obtain ⟨fuel, hf⟩ := h1; exact isSaid hf
  clear hA0 hval0
  refine (walk a0 cap0 z0 a1 len1 cap1 W hc0 hz0 hm0 hops1).mono fun e W' ⟨he, bel⟩ => ?_
  subst he
  exact ⟨_, rfl, _, _, _, [], _, [], hW', trodAll_mk1 (shut_bool Try.underlying4 _), (trodAll_cons_mk (Below.trod laidOut (by kernel_rfl) (of_decide_eq_true (by kernel_rfl)) k0 bel lt0) (trodAll_cons_mk (Below.trod laidOut (by kernel_rfl) (of_decide_eq_true (by kernel_rfl)) k1 bel lt1) trodAll_mk0)), rfl, bel.frame _, fun h => by cases h⟩

theorem over : Rows.pollPlaysRow.holds Try.pinned (OpenSpec.ofChange Rows.pollPlaysSpec) :=
  OpenClaim.holds_of_wide 3 Try.f3 rfl rfl rfl rfl rfl rfl rfl ⟨rfl, rfl, rfl, rfl, rfl⟩ rfl rfl rfl rfl rfl (by kernel_rfl) Try.func3 (by kernel_rfl)
    (of_decide_eq_true (by kernel_rfl)) (by unfold Func.isWrapper; first | (rw [if_pos (by decide +kernel)]; kernel_rfl) | (rw [if_neg (by decide +kernel)]; exact ⟨rfl, rfl⟩))
    (fun os started H enc _ => lifted os started H enc)

/-- The statement. -/
theorem proved : Rows.PollPlaysSaid := over
#print axioms proved
end Go.Proofs.Ytibdjmmhdggpfaa.pollPlays
