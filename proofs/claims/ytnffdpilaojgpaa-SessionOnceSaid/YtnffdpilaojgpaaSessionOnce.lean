/-
  For every input curfewlaw20.SessionOnce returns true and leaves its arguments as they were. Conditions: none.
  (The frame of the row began as the shell that the kit's proof-skeleton.mjs writes; the walk is typed here.)
-/
import Derived.Test.YtnffdpilaojgpaaRows
import Derived.Test.YtnffdpilaojgpaaSame
import Derived.Deep.OwnRows
import Derived.WalkKit
import Derived.ProofKit
import Derived.OpenShut
import Derived.ShutString
import Derived.ChangeOld
import Derived.Below
namespace Go.Proofs.Ytnffdpilaojgpaa.sessionOnce
open Go.ChangeShapes Go.WideShapes Go.ChangeAt Go.RowKit
open Go.ChangeMaps (open_string shut_string)
open Go.Maps Go.Proofs.YtnffdpilaojgpaaW.PrintWords Go.Proofs.YtnffdpilaojgpaaW.PrintMore Go.Proofs.Ytnffdpilaojgpaa.PSessionOnce Go.Proofs.Ytnffdpilaojgpaa.fmap
set_option linter.unusedVariables false

theorem own : ownKnob Try.prog.godebug = none := by kernel_rfl
theorem laidOut : laidOutB Try.prog = true := by kernel_rfl

theorem look27 {w : World} {dm n : Nat} {d : Lit → Option Value} (h : FM w Try.prog 38 dm n d) {c q : Int} (hc : (Lit.int .u64 c).wf = true) (hq : (Lit.int .u64 q).wf = true) (h0 : d (pk c q) = none) : (Instr.lookup 27 (.map (some dm)) (.agg #[.int .u64 c, .int .u64 q]) false).run Try.prog w = .ok (.bool false) w := by
  have := h.look law38 Try.underlying27 (zero4 w) (key38 hc hq)
  rw [h0] at this
  exact this
theorem look28 {w : World} {lm n : Nat} {g : Lit → Option Value} (h : FM w Try.prog 29 lm n g) {c : Int} (hc : (Lit.int .u64 c).wf = true) {y : S37} {A : Option Addr} {cp : Nat} (h0 : g (.int .u64 c) = some (ov y A cp)) : (Instr.lookup 28 (.map (some lm)) (.int .u64 c) false).run Try.prog w = .ok (ov y A cp) w := by
  have := h.look law29 Try.underlying28 (zero37 w) (keyOf_int_mk Try.underlying29 hc)
  rw [h0] at this
  exact this

theorem av_inj {q q' : Int} {x x' : S35} {A A' : Option Addr} {c c' : Nat} (h : (some (av q x A c) : Option Value) = some (av q' x' A' c')) : q = q' := by
  have h1 : av q x A c = av q' x' A' c' := Option.some.inj h
  have h2 : (match av q x A c with | .agg a => a[0]? | _ => none) = (match av q' x' A' c' with | .agg a => a[0]? | _ => none) := by rw [h1]
  have h3 : some (Value.int .u64 q) = some (Value.int .u64 q') := h2
  cases h3
  rfl

set_option maxRecDepth 100000 in
set_option maxHeartbeats 4000000 in
theorem walk (a : Option Addr) (len cap : Nat) (w : World) (hi : IsOps w a len) : Calls Try.prog 3 #[.slice a len cap] w fun e w' => e = .returned (.bool true) ∧ Below w.heap.size w w' := by
  have hmx := hi.1
  have HI := Lib.hid hi
  have hmm := @run_makeMap Try.prog
  have hu37 := Try.underlying37
  have hu38 := Try.underlying38
  have hu35 := Try.underlying35
  have f2 := field37_2
  have f3 := field37_3
  clear hi
  go_enter Try.func3, Try.ntmps3
  go_wp2_with (first
    | (go_at_call 7; (with_reducible refine (light_ok _ _ _ _ HI.out).mono ?_); rintro e w1 ⟨lb, rfl, hb1, hall⟩; have HA := Lib.hid hall; clear hall; cases lb)
    | (go_at_call 8; refine (lives_true _).mono ?_; rintro e w2 ⟨rfl, hb2⟩)
    | (go_at_call 9; refine (empty_ok _).mono ?_; rintro e w2 ⟨rfl, rfl⟩))
  · go_ret
    exact ⟨rfl, hb1.trans (hb2.mono hb1.size)⟩
  have O0 := once_start hb1
  have h100 := (HA.out trivial).1
  generalize w1.heap.size + 1 = b at O0 ⊢
  generalize w1.heap.size = tm at O0 ⊢
  generalize b + 1 + 1 = lm at O0 ⊢
  generalize b + 1 = dm at O0 ⊢
  go_loopw [21] (fun i wr => ∃ k : Nat, i = .int .i64 k ∧ k ≤ len ∧ ∃ f d g, Once w b tm dm lm k f d g wr) (fun i _ => len - (intOf i).toNat)
  case atStart => exact ⟨0, rfl, Nat.zero_le _, _, _, _, O0⟩
  case round =>
    clear O0 hb1
    obtain ⟨k, rfl, hk, f, d, g, O⟩ := hrel
    by_cases hlt : k < len
    · obtain ⟨b1, o, x, A, c, rfl, hO, hU, hlc, hl2, w1', w2'⟩ := (HA.out trivial).2 k hlt
      have HO := Lib.hid (hO.below O.bel)
      have d0 : wr.cell? ⟨b1, o + k * 17, none⟩ = some (.int .i64 x.f0) := HO.out.cell 0 _ rfl
      have d1 := HO.out.cell 1 _ rfl
      have d2 := HO.out.cell 2 _ rfl
      have d3 := HO.out.cell 3 _ rfl
      have d4 := HO.out.cell 4 _ rfl
      have d5 := HO.out.cell 5 _ rfl
      have d6 := HO.out.cell 6 _ rfl
      have d7 := HO.out.cell 7 _ rfl
      have d8 := HO.out.cell 8 _ rfl
      have d9 := HO.out.cell 9 _ rfl
      have d10 := HO.out.cell 10 _ rfl
      have d11 := HO.out.cell 11 _ rfl
      have d12 := HO.out.cell 12 _ rfl
      have d13 := HO.out.cell 13 _ rfl
      have d14 := HO.out.cell 14 _ rfl
      have d15 := HO.out.cell 15 _ rfl
      have d16 := HO.out.cell 16 _ rfl
      have HU := Lib.hid hU
      have HW := Lib.hid (And.intro w1' w2')
      clear hO hU w1' w2'
      have hq0 : 0 ≤ x.f2 := by have := HW.out.2; simp [Lit.wf] at this; exact this.1
      rcases hf : f (.int .u64 x.f1) with _ | v
      · have HLk := Lib.hid (looks_none O.T.map HW.out.1 hf)
        have HF := Lib.hid hf
        clear hf
        by_cases hq : 0 < x.f2
        · have HND := Lib.hid (show d (pk x.f1 x.f2) = none from (O.E _).resolve_right fun e => by obtain ⟨q', y, B, cy, e1, _⟩ := O.F _ _ HW.out.1 HW.out.2 e; rw [HF.out] at e1; cases e1)
          have HOld := Lib.hid (show ∀ q' y B cy, f (.int .u64 x.f1) = some (av q' y B cy) → q' < x.f2 from fun q' y B cy e => by rw [HF.out] at e; cases e)
          have HQ := Lib.hid hq
          as_aux_lemma =>
            have htl := O.T.map.lt
            have hdl := O.D.lt
            have hll := O.L.lt
            have BW : Below wr.heap.size wr ((wr.alloc (.cells #[.int .i64 x.f0, .int .u64 x.f1, .int .u64 x.f2, .int .i64 x.f3.f0, .int .i64 x.f3.f1, .int .u64 x.f3.f2.f0, .int .i64 x.f3.f2.f1, .int .i64 x.f3.f2.f2, .int .i64 x.f3.f2.f3, .int .u64 x.f3.f2.f4, .int .i64 x.f3.f2.f5, .int .i64 x.f3.f2.f6, .int .i64 x.f3.f2.f7, .int .i64 x.f3.f2.f8, .slice A x.f3.f3.length c, .int .u64 x.f3.f4, .int .i64 x.f3.f5] 37)).alloc (.cells #[.int .u64 x.f1, .int .u64 x.f2] 38)) := (alloc_below _ _).trans ((alloc_below _ _).mono (by simp))
            have HB37 := Lib.hid (blk_alloc (heap_alloc_new wr (.cells #[.int .i64 x.f0, .int .u64 x.f1, .int .u64 x.f2, .int .i64 x.f3.f0, .int .i64 x.f3.f1, .int .u64 x.f3.f2.f0, .int .i64 x.f3.f2.f1, .int .i64 x.f3.f2.f2, .int .i64 x.f3.f2.f3, .int .u64 x.f3.f2.f4, .int .i64 x.f3.f2.f5, .int .i64 x.f3.f2.f6, .int .i64 x.f3.f2.f7, .int .i64 x.f3.f2.f8, .slice A x.f3.f3.length c, .int .u64 x.f3.f4, .int .i64 x.f3.f5] 37)) (.cells #[.int .u64 x.f1, .int .u64 x.f2] 38))
            have HB38 := Lib.hid (show ((wr.alloc (.cells #[.int .i64 x.f0, .int .u64 x.f1, .int .u64 x.f2, .int .i64 x.f3.f0, .int .i64 x.f3.f1, .int .u64 x.f3.f2.f0, .int .i64 x.f3.f2.f1, .int .i64 x.f3.f2.f2, .int .i64 x.f3.f2.f3, .int .u64 x.f3.f2.f4, .int .i64 x.f3.f2.f5, .int .i64 x.f3.f2.f6, .int .i64 x.f3.f2.f7, .int .i64 x.f3.f2.f8, .slice A x.f3.f3.length c, .int .u64 x.f3.f4, .int .i64 x.f3.f5] 37)).alloc (.cells #[.int .u64 x.f1, .int .u64 x.f2] 38)).heap[wr.heap.size + 1]? = some (.cells #[.int .u64 x.f1, .int .u64 x.f2] 38 (0, 0)) by have := heap_alloc_new (wr.alloc (.cells #[.int .i64 x.f0, .int .u64 x.f1, .int .u64 x.f2, .int .i64 x.f3.f0, .int .i64 x.f3.f1, .int .u64 x.f3.f2.f0, .int .i64 x.f3.f2.f1, .int .i64 x.f3.f2.f2, .int .i64 x.f3.f2.f3, .int .u64 x.f3.f2.f4, .int .i64 x.f3.f2.f5, .int .i64 x.f3.f2.f6, .int .i64 x.f3.f2.f7, .int .i64 x.f3.f2.f8, .slice A x.f3.f3.length c, .int .u64 x.f3.f4, .int .i64 x.f3.f5] 37)) (.cells #[.int .u64 x.f1, .int .u64 x.f2] 38); rw [World.size_alloc] at this; exact this)
            have OW := Lib.hid (O.below BW)
            have LW := Lib.hid (HLk.out.below BW)
            clear BW
            go_wp2_with (first
              | (go_at_call 10; (with_reducible refine (look_new _ _ _ OW.out.T.c0 LW.out HQ.out).mono ?_); rintro e w3 ⟨rfl, hb3⟩; have hs3 : wr.heap.size + 1 < w3.heap.size := (by have := hb3.size; simp at this; omega); have hs3' : wr.heap.size < w3.heap.size := (by omega); have bk37 := blk_below HB37.out hb3; have bk38 := blk_below HB38.out hb3; have e0 : w3.cell? ⟨wr.heap.size, 0, none⟩ = some (.int .i64 x.f0) := (blk_cell bk37 0).trans rfl; have e1 : w3.cell? ⟨wr.heap.size, 1, none⟩ = some (.int .u64 x.f1) := (blk_cell bk37 1).trans rfl; have e2 : w3.cell? ⟨wr.heap.size, 2, none⟩ = some (.int .u64 x.f2) := (blk_cell bk37 2).trans rfl; have e3 : w3.cell? ⟨wr.heap.size, 3, none⟩ = some (.int .i64 x.f3.f0) := (blk_cell bk37 3).trans rfl; have e4 : w3.cell? ⟨wr.heap.size, 4, none⟩ = some (.int .i64 x.f3.f1) := (blk_cell bk37 4).trans rfl; have e5 : w3.cell? ⟨wr.heap.size, 5, none⟩ = some (.int .u64 x.f3.f2.f0) := (blk_cell bk37 5).trans rfl; have e6 : w3.cell? ⟨wr.heap.size, 6, none⟩ = some (.int .i64 x.f3.f2.f1) := (blk_cell bk37 6).trans rfl; have e7 : w3.cell? ⟨wr.heap.size, 7, none⟩ = some (.int .i64 x.f3.f2.f2) := (blk_cell bk37 7).trans rfl; have e8 : w3.cell? ⟨wr.heap.size, 8, none⟩ = some (.int .i64 x.f3.f2.f3) := (blk_cell bk37 8).trans rfl; have e9 : w3.cell? ⟨wr.heap.size, 9, none⟩ = some (.int .u64 x.f3.f2.f4) := (blk_cell bk37 9).trans rfl; have e10 : w3.cell? ⟨wr.heap.size, 10, none⟩ = some (.int .i64 x.f3.f2.f5) := (blk_cell bk37 10).trans rfl; have e11 : w3.cell? ⟨wr.heap.size, 11, none⟩ = some (.int .i64 x.f3.f2.f6) := (blk_cell bk37 11).trans rfl; have e12 : w3.cell? ⟨wr.heap.size, 12, none⟩ = some (.int .i64 x.f3.f2.f7) := (blk_cell bk37 12).trans rfl; have e13 : w3.cell? ⟨wr.heap.size, 13, none⟩ = some (.int .i64 x.f3.f2.f8) := (blk_cell bk37 13).trans rfl; have e14 : w3.cell? ⟨wr.heap.size, 14, none⟩ = some (.slice A x.f3.f3.length c) := (blk_cell bk37 14).trans rfl; have e15 : w3.cell? ⟨wr.heap.size, 15, none⟩ = some (.int .u64 x.f3.f4) := (blk_cell bk37 15).trans rfl; have e16 : w3.cell? ⟨wr.heap.size, 16, none⟩ = some (.int .i64 x.f3.f5) := (blk_cell bk37 16).trans rfl; have k0 : w3.cell? ⟨wr.heap.size + 1, 0, none⟩ = some (.int .u64 x.f1) := (blk_cell bk38 0).trans rfl; have k1 : w3.cell? ⟨wr.heap.size + 1, 1, none⟩ = some (.int .u64 x.f2) := (blk_cell bk38 1).trans rfl; have B37 := Lib.hid (blk_alloc bk37 (.cells rz 35)); have B38 := Lib.hid (blk_alloc bk38 (.cells rz 35)); have hb3' := hb3.trans ((alloc_below w3 (.cells rz 35)).mono hb3.size); have O3 := Lib.hid (OW.out.below hb3'); have L3 := Lib.hid (LW.out.below hb3'); clear bk37 bk38 hb3'; have lkd := look27 O3.out.D HW.out.1 HW.out.2 HND.out)
              | (go_at_call 12; (with_reducible refine (done_new _ _ _ _ _ O3.out.T.c0 O3.out.T.map (by omega) HW.out.1 L3.out HQ.out x.f3 A c (HU.out.below ?bu) hlc (by omega)).mono ?_); (case bu => exact O3.out.bel); rintro e w5 (⟨kk, rfl, hk, hb5⟩ | ⟨rfl, A5, c5, hm5, hU5, hc5, hg5⟩)))
            · as_aux_lemma =>
              go_roundw
              case rel => exact ⟨k + 1, by go_num, hlt, _, _, _, (O3.out.below hb5).mono (Nat.le_succ _)⟩
              case measure => simp [intOf]; omega
            · as_aux_lemma =>
              have b375 := blk_grown B37.out hg5 (by intro e; cases e; omega)
              have b385 := blk_grown B38.out hg5 (by intro e; cases e; omega)
              obtain ⟨w6, hmu6, hm6, hg6, _⟩ := FM.stores ((O3.out.D.kept hg5 (by intro e; exact O3.out.td (by cases e; rfl))).drew) law38 Try.underlying27 (by unfold maxLen; omega) (key38 HW.out.1 HW.out.2) (.bool true)
              have b376 := blk_grown (blk_drew b375) hg6 (by intro e; cases e; omega)
              have b386 := blk_grown (blk_drew b385) hg6 (by intro e; cases e; omega)
              obtain ⟨w7, hmu7, hm7, hg7, _⟩ := FM.stores (((O3.out.L.kept hg5 (by intro e; exact O3.out.tl (by cases e; rfl))).drew).kept hg6 (by intro e; exact O3.out.dl (by cases e; rfl))) law29 Try.underlying28 (by unfold maxLen; omega) (keyOf_int_mk Try.underlying29 HW.out.1) (ov x A c)
              have b377 := blk_grown b376 hg7 (by intro e; cases e; omega)
              have b387 := blk_grown b386 hg7 (by intro e; cases e; omega)
              have K5 := Lib.hid (show (fun W : World => W.cell? ⟨wr.heap.size, 0, none⟩ = some (.int .i64 x.f0) ∧ W.cell? ⟨wr.heap.size, 1, none⟩ = some (.int .u64 x.f1) ∧ W.cell? ⟨wr.heap.size, 2, none⟩ = some (.int .u64 x.f2) ∧ W.cell? ⟨wr.heap.size, 3, none⟩ = some (.int .i64 x.f3.f0) ∧ W.cell? ⟨wr.heap.size, 4, none⟩ = some (.int .i64 x.f3.f1) ∧ W.cell? ⟨wr.heap.size, 5, none⟩ = some (.int .u64 x.f3.f2.f0) ∧ W.cell? ⟨wr.heap.size, 6, none⟩ = some (.int .i64 x.f3.f2.f1) ∧ W.cell? ⟨wr.heap.size, 7, none⟩ = some (.int .i64 x.f3.f2.f2) ∧ W.cell? ⟨wr.heap.size, 8, none⟩ = some (.int .i64 x.f3.f2.f3) ∧ W.cell? ⟨wr.heap.size, 9, none⟩ = some (.int .u64 x.f3.f2.f4) ∧ W.cell? ⟨wr.heap.size, 10, none⟩ = some (.int .i64 x.f3.f2.f5) ∧ W.cell? ⟨wr.heap.size, 11, none⟩ = some (.int .i64 x.f3.f2.f6) ∧ W.cell? ⟨wr.heap.size, 12, none⟩ = some (.int .i64 x.f3.f2.f7) ∧ W.cell? ⟨wr.heap.size, 13, none⟩ = some (.int .i64 x.f3.f2.f8) ∧ W.cell? ⟨wr.heap.size, 14, none⟩ = some (.slice A x.f3.f3.length c) ∧ W.cell? ⟨wr.heap.size, 15, none⟩ = some (.int .u64 x.f3.f4) ∧ W.cell? ⟨wr.heap.size, 16, none⟩ = some (.int .i64 x.f3.f5) ∧ W.cell? ⟨wr.heap.size + 1, 0, none⟩ = some (.int .u64 x.f1) ∧ W.cell? ⟨wr.heap.size + 1, 1, none⟩ = some (.int .u64 x.f2)) w5.drew from ⟨blk_cell (blk_drew b375) 0, blk_cell (blk_drew b375) 1, blk_cell (blk_drew b375) 2, blk_cell (blk_drew b375) 3, blk_cell (blk_drew b375) 4, blk_cell (blk_drew b375) 5, blk_cell (blk_drew b375) 6, blk_cell (blk_drew b375) 7, blk_cell (blk_drew b375) 8, blk_cell (blk_drew b375) 9, blk_cell (blk_drew b375) 10, blk_cell (blk_drew b375) 11, blk_cell (blk_drew b375) 12, blk_cell (blk_drew b375) 13, blk_cell (blk_drew b375) 14, blk_cell (blk_drew b375) 15, blk_cell (blk_drew b375) 16, blk_cell (blk_drew b385) 0, blk_cell (blk_drew b385) 1⟩)
              have K6 := Lib.hid (show (fun W : World => W.cell? ⟨wr.heap.size, 0, none⟩ = some (.int .i64 x.f0) ∧ W.cell? ⟨wr.heap.size, 1, none⟩ = some (.int .u64 x.f1) ∧ W.cell? ⟨wr.heap.size, 2, none⟩ = some (.int .u64 x.f2) ∧ W.cell? ⟨wr.heap.size, 3, none⟩ = some (.int .i64 x.f3.f0) ∧ W.cell? ⟨wr.heap.size, 4, none⟩ = some (.int .i64 x.f3.f1) ∧ W.cell? ⟨wr.heap.size, 5, none⟩ = some (.int .u64 x.f3.f2.f0) ∧ W.cell? ⟨wr.heap.size, 6, none⟩ = some (.int .i64 x.f3.f2.f1) ∧ W.cell? ⟨wr.heap.size, 7, none⟩ = some (.int .i64 x.f3.f2.f2) ∧ W.cell? ⟨wr.heap.size, 8, none⟩ = some (.int .i64 x.f3.f2.f3) ∧ W.cell? ⟨wr.heap.size, 9, none⟩ = some (.int .u64 x.f3.f2.f4) ∧ W.cell? ⟨wr.heap.size, 10, none⟩ = some (.int .i64 x.f3.f2.f5) ∧ W.cell? ⟨wr.heap.size, 11, none⟩ = some (.int .i64 x.f3.f2.f6) ∧ W.cell? ⟨wr.heap.size, 12, none⟩ = some (.int .i64 x.f3.f2.f7) ∧ W.cell? ⟨wr.heap.size, 13, none⟩ = some (.int .i64 x.f3.f2.f8) ∧ W.cell? ⟨wr.heap.size, 14, none⟩ = some (.slice A x.f3.f3.length c) ∧ W.cell? ⟨wr.heap.size, 15, none⟩ = some (.int .u64 x.f3.f4) ∧ W.cell? ⟨wr.heap.size, 16, none⟩ = some (.int .i64 x.f3.f5) ∧ W.cell? ⟨wr.heap.size + 1, 0, none⟩ = some (.int .u64 x.f1) ∧ W.cell? ⟨wr.heap.size + 1, 1, none⟩ = some (.int .u64 x.f2)) w6 from ⟨blk_cell b376 0, blk_cell b376 1, blk_cell b376 2, blk_cell b376 3, blk_cell b376 4, blk_cell b376 5, blk_cell b376 6, blk_cell b376 7, blk_cell b376 8, blk_cell b376 9, blk_cell b376 10, blk_cell b376 11, blk_cell b376 12, blk_cell b376 13, blk_cell b376 14, blk_cell b376 15, blk_cell b376 16, blk_cell b386 0, blk_cell b386 1⟩)
              have K7 := Lib.hid (show (fun W : World => W.cell? ⟨wr.heap.size, 0, none⟩ = some (.int .i64 x.f0) ∧ W.cell? ⟨wr.heap.size, 1, none⟩ = some (.int .u64 x.f1) ∧ W.cell? ⟨wr.heap.size, 2, none⟩ = some (.int .u64 x.f2) ∧ W.cell? ⟨wr.heap.size, 3, none⟩ = some (.int .i64 x.f3.f0) ∧ W.cell? ⟨wr.heap.size, 4, none⟩ = some (.int .i64 x.f3.f1) ∧ W.cell? ⟨wr.heap.size, 5, none⟩ = some (.int .u64 x.f3.f2.f0) ∧ W.cell? ⟨wr.heap.size, 6, none⟩ = some (.int .i64 x.f3.f2.f1) ∧ W.cell? ⟨wr.heap.size, 7, none⟩ = some (.int .i64 x.f3.f2.f2) ∧ W.cell? ⟨wr.heap.size, 8, none⟩ = some (.int .i64 x.f3.f2.f3) ∧ W.cell? ⟨wr.heap.size, 9, none⟩ = some (.int .u64 x.f3.f2.f4) ∧ W.cell? ⟨wr.heap.size, 10, none⟩ = some (.int .i64 x.f3.f2.f5) ∧ W.cell? ⟨wr.heap.size, 11, none⟩ = some (.int .i64 x.f3.f2.f6) ∧ W.cell? ⟨wr.heap.size, 12, none⟩ = some (.int .i64 x.f3.f2.f7) ∧ W.cell? ⟨wr.heap.size, 13, none⟩ = some (.int .i64 x.f3.f2.f8) ∧ W.cell? ⟨wr.heap.size, 14, none⟩ = some (.slice A x.f3.f3.length c) ∧ W.cell? ⟨wr.heap.size, 15, none⟩ = some (.int .u64 x.f3.f4) ∧ W.cell? ⟨wr.heap.size, 16, none⟩ = some (.int .i64 x.f3.f5) ∧ W.cell? ⟨wr.heap.size + 1, 0, none⟩ = some (.int .u64 x.f1) ∧ W.cell? ⟨wr.heap.size + 1, 1, none⟩ = some (.int .u64 x.f2)) w7 from ⟨blk_cell b377 0, blk_cell b377 1, blk_cell b377 2, blk_cell b377 3, blk_cell b377 4, blk_cell b377 5, blk_cell b377 6, blk_cell b377 7, blk_cell b377 8, blk_cell b377 9, blk_cell b377 10, blk_cell b377 11, blk_cell b377 12, blk_cell b377 13, blk_cell b377 14, blk_cell b377 15, blk_cell b377 16, blk_cell b387 0, blk_cell b387 1⟩)
              have U5 := Lib.hid ((HU.out.below O3.out.bel).store O3.out.T.map hg5)
              have ON := Lib.hid (O3.out.stored HW.out.1 HW.out.2 hm5 hg5 hm6 (show w5.grownBy w6 (some dm) from ⟨hg6.os, hg6.tape, hg6.output, hg6.size, hg6.block⟩) hm7 hg7 hU5 hc5 U5.out hlc (by omega) HOld.out)
              clear b375 b385 b376 b386 b377 b387 hm5 hg5 hm6 hg6 hm7 hg7 hU5
              as_aux_lemma =>
               go_region_held3 (fun W => W.cell? ⟨wr.heap.size, 0, none⟩ = some (.int .i64 x.f0) ∧ W.cell? ⟨wr.heap.size, 1, none⟩ = some (.int .u64 x.f1) ∧ W.cell? ⟨wr.heap.size, 2, none⟩ = some (.int .u64 x.f2) ∧ W.cell? ⟨wr.heap.size, 3, none⟩ = some (.int .i64 x.f3.f0) ∧ W.cell? ⟨wr.heap.size, 4, none⟩ = some (.int .i64 x.f3.f1) ∧ W.cell? ⟨wr.heap.size, 5, none⟩ = some (.int .u64 x.f3.f2.f0) ∧ W.cell? ⟨wr.heap.size, 6, none⟩ = some (.int .i64 x.f3.f2.f1) ∧ W.cell? ⟨wr.heap.size, 7, none⟩ = some (.int .i64 x.f3.f2.f2) ∧ W.cell? ⟨wr.heap.size, 8, none⟩ = some (.int .i64 x.f3.f2.f3) ∧ W.cell? ⟨wr.heap.size, 9, none⟩ = some (.int .u64 x.f3.f2.f4) ∧ W.cell? ⟨wr.heap.size, 10, none⟩ = some (.int .i64 x.f3.f2.f5) ∧ W.cell? ⟨wr.heap.size, 11, none⟩ = some (.int .i64 x.f3.f2.f6) ∧ W.cell? ⟨wr.heap.size, 12, none⟩ = some (.int .i64 x.f3.f2.f7) ∧ W.cell? ⟨wr.heap.size, 13, none⟩ = some (.int .i64 x.f3.f2.f8) ∧ W.cell? ⟨wr.heap.size, 14, none⟩ = some (.slice A x.f3.f3.length c) ∧ W.cell? ⟨wr.heap.size, 15, none⟩ = some (.int .u64 x.f3.f4) ∧ W.cell? ⟨wr.heap.size, 16, none⟩ = some (.int .i64 x.f3.f5) ∧ W.cell? ⟨wr.heap.size + 1, 0, none⟩ = some (.int .u64 x.f1) ∧ W.cell? ⟨wr.heap.size + 1, 1, none⟩ = some (.int .u64 x.f2))
                 (first | exact K5.out | exact K6.out | exact K7.out)
                 (first | fail)
               all_goals
                as_aux_lemma =>
                 go_wp2
                 go_roundw
                 case rel => exact ⟨k + 1, by go_num, hlt, _, _, _, ON.out⟩
                 case measure => simp [intOf]; omega
        · have HQ1 := Lib.hid (show x.f2 ≤ 0 by omega)
          have HQ2 := Lib.hid (show false = false ∨ x.f2 ≠ 0 from .inl rfl)
          as_aux_lemma =>
            have BW : Below wr.heap.size wr ((wr.alloc (.cells #[.int .i64 x.f0, .int .u64 x.f1, .int .u64 x.f2, .int .i64 x.f3.f0, .int .i64 x.f3.f1, .int .u64 x.f3.f2.f0, .int .i64 x.f3.f2.f1, .int .i64 x.f3.f2.f2, .int .i64 x.f3.f2.f3, .int .u64 x.f3.f2.f4, .int .i64 x.f3.f2.f5, .int .i64 x.f3.f2.f6, .int .i64 x.f3.f2.f7, .int .i64 x.f3.f2.f8, .slice A x.f3.f3.length c, .int .u64 x.f3.f4, .int .i64 x.f3.f5] 37)).alloc (.cells #[.int .u64 x.f1, .int .u64 x.f2] 38)) := (alloc_below _ _).trans ((alloc_below _ _).mono (by simp))
            have HB37 := Lib.hid (blk_alloc (heap_alloc_new wr (.cells #[.int .i64 x.f0, .int .u64 x.f1, .int .u64 x.f2, .int .i64 x.f3.f0, .int .i64 x.f3.f1, .int .u64 x.f3.f2.f0, .int .i64 x.f3.f2.f1, .int .i64 x.f3.f2.f2, .int .i64 x.f3.f2.f3, .int .u64 x.f3.f2.f4, .int .i64 x.f3.f2.f5, .int .i64 x.f3.f2.f6, .int .i64 x.f3.f2.f7, .int .i64 x.f3.f2.f8, .slice A x.f3.f3.length c, .int .u64 x.f3.f4, .int .i64 x.f3.f5] 37)) (.cells #[.int .u64 x.f1, .int .u64 x.f2] 38))
            have HB38 := Lib.hid (show ((wr.alloc (.cells #[.int .i64 x.f0, .int .u64 x.f1, .int .u64 x.f2, .int .i64 x.f3.f0, .int .i64 x.f3.f1, .int .u64 x.f3.f2.f0, .int .i64 x.f3.f2.f1, .int .i64 x.f3.f2.f2, .int .i64 x.f3.f2.f3, .int .u64 x.f3.f2.f4, .int .i64 x.f3.f2.f5, .int .i64 x.f3.f2.f6, .int .i64 x.f3.f2.f7, .int .i64 x.f3.f2.f8, .slice A x.f3.f3.length c, .int .u64 x.f3.f4, .int .i64 x.f3.f5] 37)).alloc (.cells #[.int .u64 x.f1, .int .u64 x.f2] 38)).heap[wr.heap.size + 1]? = some (.cells #[.int .u64 x.f1, .int .u64 x.f2] 38 (0, 0)) by have := heap_alloc_new (wr.alloc (.cells #[.int .i64 x.f0, .int .u64 x.f1, .int .u64 x.f2, .int .i64 x.f3.f0, .int .i64 x.f3.f1, .int .u64 x.f3.f2.f0, .int .i64 x.f3.f2.f1, .int .i64 x.f3.f2.f2, .int .i64 x.f3.f2.f3, .int .u64 x.f3.f2.f4, .int .i64 x.f3.f2.f5, .int .i64 x.f3.f2.f6, .int .i64 x.f3.f2.f7, .int .i64 x.f3.f2.f8, .slice A x.f3.f3.length c, .int .u64 x.f3.f4, .int .i64 x.f3.f5] 37)) (.cells #[.int .u64 x.f1, .int .u64 x.f2] 38); rw [World.size_alloc] at this; exact this)
            have OW := Lib.hid (O.below BW)
            have LW := Lib.hid (HLk.out.below BW)
            clear BW
            go_wp2_with (first
              | (go_at_call 10; (with_reducible refine (look_old _ _ _ OW.out.T.c0 LW.out HQ1.out HQ2.out).mono ?_); rintro e w3 ⟨rfl, hb3⟩; have hs3 : wr.heap.size + 1 < w3.heap.size := (by have := hb3.size; simp at this; omega); have hs3' : wr.heap.size < w3.heap.size := (by omega); have bk37 := blk_below HB37.out hb3; have bk38 := blk_below HB38.out hb3; have e0 : w3.cell? ⟨wr.heap.size, 0, none⟩ = some (.int .i64 x.f0) := (blk_cell bk37 0).trans rfl; have e1 : w3.cell? ⟨wr.heap.size, 1, none⟩ = some (.int .u64 x.f1) := (blk_cell bk37 1).trans rfl; have e2 : w3.cell? ⟨wr.heap.size, 2, none⟩ = some (.int .u64 x.f2) := (blk_cell bk37 2).trans rfl; have e3 : w3.cell? ⟨wr.heap.size, 3, none⟩ = some (.int .i64 x.f3.f0) := (blk_cell bk37 3).trans rfl; have e4 : w3.cell? ⟨wr.heap.size, 4, none⟩ = some (.int .i64 x.f3.f1) := (blk_cell bk37 4).trans rfl; have e5 : w3.cell? ⟨wr.heap.size, 5, none⟩ = some (.int .u64 x.f3.f2.f0) := (blk_cell bk37 5).trans rfl; have e6 : w3.cell? ⟨wr.heap.size, 6, none⟩ = some (.int .i64 x.f3.f2.f1) := (blk_cell bk37 6).trans rfl; have e7 : w3.cell? ⟨wr.heap.size, 7, none⟩ = some (.int .i64 x.f3.f2.f2) := (blk_cell bk37 7).trans rfl; have e8 : w3.cell? ⟨wr.heap.size, 8, none⟩ = some (.int .i64 x.f3.f2.f3) := (blk_cell bk37 8).trans rfl; have e9 : w3.cell? ⟨wr.heap.size, 9, none⟩ = some (.int .u64 x.f3.f2.f4) := (blk_cell bk37 9).trans rfl; have e10 : w3.cell? ⟨wr.heap.size, 10, none⟩ = some (.int .i64 x.f3.f2.f5) := (blk_cell bk37 10).trans rfl; have e11 : w3.cell? ⟨wr.heap.size, 11, none⟩ = some (.int .i64 x.f3.f2.f6) := (blk_cell bk37 11).trans rfl; have e12 : w3.cell? ⟨wr.heap.size, 12, none⟩ = some (.int .i64 x.f3.f2.f7) := (blk_cell bk37 12).trans rfl; have e13 : w3.cell? ⟨wr.heap.size, 13, none⟩ = some (.int .i64 x.f3.f2.f8) := (blk_cell bk37 13).trans rfl; have e14 : w3.cell? ⟨wr.heap.size, 14, none⟩ = some (.slice A x.f3.f3.length c) := (blk_cell bk37 14).trans rfl; have e15 : w3.cell? ⟨wr.heap.size, 15, none⟩ = some (.int .u64 x.f3.f4) := (blk_cell bk37 15).trans rfl; have e16 : w3.cell? ⟨wr.heap.size, 16, none⟩ = some (.int .i64 x.f3.f5) := (blk_cell bk37 16).trans rfl; have k0 : w3.cell? ⟨wr.heap.size + 1, 0, none⟩ = some (.int .u64 x.f1) := (blk_cell bk38 0).trans rfl; have k1 : w3.cell? ⟨wr.heap.size + 1, 1, none⟩ = some (.int .u64 x.f2) := (blk_cell bk38 1).trans rfl; have B37 := Lib.hid (blk_alloc bk37 (.cells rz 35)); have B38 := Lib.hid (blk_alloc bk38 (.cells rz 35)); have hb3' := hb3.trans ((alloc_below w3 (.cells rz 35)).mono hb3.size); have O3 := Lib.hid (OW.out.below hb3'); have L3 := Lib.hid (LW.out.below hb3'); clear bk37 bk38 hb3')
              | (go_at_call 12; (with_reducible refine (done_old _ _ _ O3.out.T.c0 L3.out HQ1.out x.f3 A c).mono ?_); rintro e w5 ⟨kk, rfl, hk, hb5⟩; have hk0 : (kk == 0) = false := (by simpa using hk)))
            go_roundw
            case rel => exact ⟨k + 1, by go_num, hlt, _, _, _, (O3.out.below hb5).mono (Nat.le_succ _)⟩
            case measure => simp [intOf]; omega
      · obtain ⟨y, Ay, A2, cpy, cp2, rfl, hUy, hcy, hg, hUl, hcl, hly⟩ := O.J _ _ hf
        have HLk0 := Lib.hid (looks_some O.T.map HW.out.1 hf)
        have HF := Lib.hid hf
        have HG := Lib.hid hg
        have HUy := Lib.hid hUy
        have HUl := Lib.hid hUl
        clear hf hg hUy hUl
        by_cases hq : y.f2 < x.f2
        · have HND := Lib.hid (show d (pk x.f1 x.f2) = none from (O.E _).resolve_right fun e => by
            obtain ⟨q', y', B, cy, e1, e2⟩ := O.F _ _ HW.out.1 HW.out.2 e
            rw [HF.out] at e1
            have e3 := av_inj e1
            omega)
          have HOld := Lib.hid (show ∀ q' y' B cy, f (.int .u64 x.f1) = some (av q' y' B cy) → q' < x.f2 from fun q' y' B cy e1 => by
            rw [HF.out] at e1
            have e3 := av_inj e1
            omega)
          have HQ := Lib.hid hq
          have HLk := HLk0
          clear HLk0
          as_aux_lemma =>
            have htl := O.T.map.lt
            have hdl := O.D.lt
            have hll := O.L.lt
            have BW : Below wr.heap.size wr ((wr.alloc (.cells #[.int .i64 x.f0, .int .u64 x.f1, .int .u64 x.f2, .int .i64 x.f3.f0, .int .i64 x.f3.f1, .int .u64 x.f3.f2.f0, .int .i64 x.f3.f2.f1, .int .i64 x.f3.f2.f2, .int .i64 x.f3.f2.f3, .int .u64 x.f3.f2.f4, .int .i64 x.f3.f2.f5, .int .i64 x.f3.f2.f6, .int .i64 x.f3.f2.f7, .int .i64 x.f3.f2.f8, .slice A x.f3.f3.length c, .int .u64 x.f3.f4, .int .i64 x.f3.f5] 37)).alloc (.cells #[.int .u64 x.f1, .int .u64 x.f2] 38)) := (alloc_below _ _).trans ((alloc_below _ _).mono (by simp))
            have HB37 := Lib.hid (blk_alloc (heap_alloc_new wr (.cells #[.int .i64 x.f0, .int .u64 x.f1, .int .u64 x.f2, .int .i64 x.f3.f0, .int .i64 x.f3.f1, .int .u64 x.f3.f2.f0, .int .i64 x.f3.f2.f1, .int .i64 x.f3.f2.f2, .int .i64 x.f3.f2.f3, .int .u64 x.f3.f2.f4, .int .i64 x.f3.f2.f5, .int .i64 x.f3.f2.f6, .int .i64 x.f3.f2.f7, .int .i64 x.f3.f2.f8, .slice A x.f3.f3.length c, .int .u64 x.f3.f4, .int .i64 x.f3.f5] 37)) (.cells #[.int .u64 x.f1, .int .u64 x.f2] 38))
            have HB38 := Lib.hid (show ((wr.alloc (.cells #[.int .i64 x.f0, .int .u64 x.f1, .int .u64 x.f2, .int .i64 x.f3.f0, .int .i64 x.f3.f1, .int .u64 x.f3.f2.f0, .int .i64 x.f3.f2.f1, .int .i64 x.f3.f2.f2, .int .i64 x.f3.f2.f3, .int .u64 x.f3.f2.f4, .int .i64 x.f3.f2.f5, .int .i64 x.f3.f2.f6, .int .i64 x.f3.f2.f7, .int .i64 x.f3.f2.f8, .slice A x.f3.f3.length c, .int .u64 x.f3.f4, .int .i64 x.f3.f5] 37)).alloc (.cells #[.int .u64 x.f1, .int .u64 x.f2] 38)).heap[wr.heap.size + 1]? = some (.cells #[.int .u64 x.f1, .int .u64 x.f2] 38 (0, 0)) by have := heap_alloc_new (wr.alloc (.cells #[.int .i64 x.f0, .int .u64 x.f1, .int .u64 x.f2, .int .i64 x.f3.f0, .int .i64 x.f3.f1, .int .u64 x.f3.f2.f0, .int .i64 x.f3.f2.f1, .int .i64 x.f3.f2.f2, .int .i64 x.f3.f2.f3, .int .u64 x.f3.f2.f4, .int .i64 x.f3.f2.f5, .int .i64 x.f3.f2.f6, .int .i64 x.f3.f2.f7, .int .i64 x.f3.f2.f8, .slice A x.f3.f3.length c, .int .u64 x.f3.f4, .int .i64 x.f3.f5] 37)) (.cells #[.int .u64 x.f1, .int .u64 x.f2] 38); rw [World.size_alloc] at this; exact this)
            have OW := Lib.hid (O.below BW)
            have LW := Lib.hid (HLk.out.below BW)
            clear BW
            go_wp2_with (first
              | (go_at_call 10; (with_reducible refine (look_new _ _ _ OW.out.T.c0 LW.out HQ.out).mono ?_); rintro e w3 ⟨rfl, hb3⟩; have hs3 : wr.heap.size + 1 < w3.heap.size := (by have := hb3.size; simp at this; omega); have hs3' : wr.heap.size < w3.heap.size := (by omega); have bk37 := blk_below HB37.out hb3; have bk38 := blk_below HB38.out hb3; have e0 : w3.cell? ⟨wr.heap.size, 0, none⟩ = some (.int .i64 x.f0) := (blk_cell bk37 0).trans rfl; have e1 : w3.cell? ⟨wr.heap.size, 1, none⟩ = some (.int .u64 x.f1) := (blk_cell bk37 1).trans rfl; have e2 : w3.cell? ⟨wr.heap.size, 2, none⟩ = some (.int .u64 x.f2) := (blk_cell bk37 2).trans rfl; have e3 : w3.cell? ⟨wr.heap.size, 3, none⟩ = some (.int .i64 x.f3.f0) := (blk_cell bk37 3).trans rfl; have e4 : w3.cell? ⟨wr.heap.size, 4, none⟩ = some (.int .i64 x.f3.f1) := (blk_cell bk37 4).trans rfl; have e5 : w3.cell? ⟨wr.heap.size, 5, none⟩ = some (.int .u64 x.f3.f2.f0) := (blk_cell bk37 5).trans rfl; have e6 : w3.cell? ⟨wr.heap.size, 6, none⟩ = some (.int .i64 x.f3.f2.f1) := (blk_cell bk37 6).trans rfl; have e7 : w3.cell? ⟨wr.heap.size, 7, none⟩ = some (.int .i64 x.f3.f2.f2) := (blk_cell bk37 7).trans rfl; have e8 : w3.cell? ⟨wr.heap.size, 8, none⟩ = some (.int .i64 x.f3.f2.f3) := (blk_cell bk37 8).trans rfl; have e9 : w3.cell? ⟨wr.heap.size, 9, none⟩ = some (.int .u64 x.f3.f2.f4) := (blk_cell bk37 9).trans rfl; have e10 : w3.cell? ⟨wr.heap.size, 10, none⟩ = some (.int .i64 x.f3.f2.f5) := (blk_cell bk37 10).trans rfl; have e11 : w3.cell? ⟨wr.heap.size, 11, none⟩ = some (.int .i64 x.f3.f2.f6) := (blk_cell bk37 11).trans rfl; have e12 : w3.cell? ⟨wr.heap.size, 12, none⟩ = some (.int .i64 x.f3.f2.f7) := (blk_cell bk37 12).trans rfl; have e13 : w3.cell? ⟨wr.heap.size, 13, none⟩ = some (.int .i64 x.f3.f2.f8) := (blk_cell bk37 13).trans rfl; have e14 : w3.cell? ⟨wr.heap.size, 14, none⟩ = some (.slice A x.f3.f3.length c) := (blk_cell bk37 14).trans rfl; have e15 : w3.cell? ⟨wr.heap.size, 15, none⟩ = some (.int .u64 x.f3.f4) := (blk_cell bk37 15).trans rfl; have e16 : w3.cell? ⟨wr.heap.size, 16, none⟩ = some (.int .i64 x.f3.f5) := (blk_cell bk37 16).trans rfl; have k0 : w3.cell? ⟨wr.heap.size + 1, 0, none⟩ = some (.int .u64 x.f1) := (blk_cell bk38 0).trans rfl; have k1 : w3.cell? ⟨wr.heap.size + 1, 1, none⟩ = some (.int .u64 x.f2) := (blk_cell bk38 1).trans rfl; have B37 := Lib.hid (blk_alloc bk37 (.cells rz 35)); have B38 := Lib.hid (blk_alloc bk38 (.cells rz 35)); have hb3' := hb3.trans ((alloc_below w3 (.cells rz 35)).mono hb3.size); have O3 := Lib.hid (OW.out.below hb3'); have L3 := Lib.hid (LW.out.below hb3'); clear bk37 bk38 hb3'; have lkd := look27 O3.out.D HW.out.1 HW.out.2 HND.out)
              | (go_at_call 12; (with_reducible refine (done_new _ _ _ _ _ O3.out.T.c0 O3.out.T.map (by omega) HW.out.1 L3.out HQ.out x.f3 A c (HU.out.below ?bu) hlc (by omega)).mono ?_); (case bu => exact O3.out.bel); rintro e w5 (⟨kk, rfl, hk, hb5⟩ | ⟨rfl, A5, c5, hm5, hU5, hc5, hg5⟩)))
            · as_aux_lemma =>
              go_roundw
              case rel => exact ⟨k + 1, by go_num, hlt, _, _, _, (O3.out.below hb5).mono (Nat.le_succ _)⟩
              case measure => simp [intOf]; omega
            · as_aux_lemma =>
              have b375 := blk_grown B37.out hg5 (by intro e; cases e; omega)
              have b385 := blk_grown B38.out hg5 (by intro e; cases e; omega)
              obtain ⟨w6, hmu6, hm6, hg6, _⟩ := FM.stores ((O3.out.D.kept hg5 (by intro e; exact O3.out.td (by cases e; rfl))).drew) law38 Try.underlying27 (by unfold maxLen; omega) (key38 HW.out.1 HW.out.2) (.bool true)
              have b376 := blk_grown (blk_drew b375) hg6 (by intro e; cases e; omega)
              have b386 := blk_grown (blk_drew b385) hg6 (by intro e; cases e; omega)
              obtain ⟨w7, hmu7, hm7, hg7, _⟩ := FM.stores (((O3.out.L.kept hg5 (by intro e; exact O3.out.tl (by cases e; rfl))).drew).kept hg6 (by intro e; exact O3.out.dl (by cases e; rfl))) law29 Try.underlying28 (by unfold maxLen; omega) (keyOf_int_mk Try.underlying29 HW.out.1) (ov x A c)
              have b377 := blk_grown b376 hg7 (by intro e; cases e; omega)
              have b387 := blk_grown b386 hg7 (by intro e; cases e; omega)
              have K5 := Lib.hid (show (fun W : World => W.cell? ⟨wr.heap.size, 0, none⟩ = some (.int .i64 x.f0) ∧ W.cell? ⟨wr.heap.size, 1, none⟩ = some (.int .u64 x.f1) ∧ W.cell? ⟨wr.heap.size, 2, none⟩ = some (.int .u64 x.f2) ∧ W.cell? ⟨wr.heap.size, 3, none⟩ = some (.int .i64 x.f3.f0) ∧ W.cell? ⟨wr.heap.size, 4, none⟩ = some (.int .i64 x.f3.f1) ∧ W.cell? ⟨wr.heap.size, 5, none⟩ = some (.int .u64 x.f3.f2.f0) ∧ W.cell? ⟨wr.heap.size, 6, none⟩ = some (.int .i64 x.f3.f2.f1) ∧ W.cell? ⟨wr.heap.size, 7, none⟩ = some (.int .i64 x.f3.f2.f2) ∧ W.cell? ⟨wr.heap.size, 8, none⟩ = some (.int .i64 x.f3.f2.f3) ∧ W.cell? ⟨wr.heap.size, 9, none⟩ = some (.int .u64 x.f3.f2.f4) ∧ W.cell? ⟨wr.heap.size, 10, none⟩ = some (.int .i64 x.f3.f2.f5) ∧ W.cell? ⟨wr.heap.size, 11, none⟩ = some (.int .i64 x.f3.f2.f6) ∧ W.cell? ⟨wr.heap.size, 12, none⟩ = some (.int .i64 x.f3.f2.f7) ∧ W.cell? ⟨wr.heap.size, 13, none⟩ = some (.int .i64 x.f3.f2.f8) ∧ W.cell? ⟨wr.heap.size, 14, none⟩ = some (.slice A x.f3.f3.length c) ∧ W.cell? ⟨wr.heap.size, 15, none⟩ = some (.int .u64 x.f3.f4) ∧ W.cell? ⟨wr.heap.size, 16, none⟩ = some (.int .i64 x.f3.f5) ∧ W.cell? ⟨wr.heap.size + 1, 0, none⟩ = some (.int .u64 x.f1) ∧ W.cell? ⟨wr.heap.size + 1, 1, none⟩ = some (.int .u64 x.f2)) w5.drew from ⟨blk_cell (blk_drew b375) 0, blk_cell (blk_drew b375) 1, blk_cell (blk_drew b375) 2, blk_cell (blk_drew b375) 3, blk_cell (blk_drew b375) 4, blk_cell (blk_drew b375) 5, blk_cell (blk_drew b375) 6, blk_cell (blk_drew b375) 7, blk_cell (blk_drew b375) 8, blk_cell (blk_drew b375) 9, blk_cell (blk_drew b375) 10, blk_cell (blk_drew b375) 11, blk_cell (blk_drew b375) 12, blk_cell (blk_drew b375) 13, blk_cell (blk_drew b375) 14, blk_cell (blk_drew b375) 15, blk_cell (blk_drew b375) 16, blk_cell (blk_drew b385) 0, blk_cell (blk_drew b385) 1⟩)
              have K6 := Lib.hid (show (fun W : World => W.cell? ⟨wr.heap.size, 0, none⟩ = some (.int .i64 x.f0) ∧ W.cell? ⟨wr.heap.size, 1, none⟩ = some (.int .u64 x.f1) ∧ W.cell? ⟨wr.heap.size, 2, none⟩ = some (.int .u64 x.f2) ∧ W.cell? ⟨wr.heap.size, 3, none⟩ = some (.int .i64 x.f3.f0) ∧ W.cell? ⟨wr.heap.size, 4, none⟩ = some (.int .i64 x.f3.f1) ∧ W.cell? ⟨wr.heap.size, 5, none⟩ = some (.int .u64 x.f3.f2.f0) ∧ W.cell? ⟨wr.heap.size, 6, none⟩ = some (.int .i64 x.f3.f2.f1) ∧ W.cell? ⟨wr.heap.size, 7, none⟩ = some (.int .i64 x.f3.f2.f2) ∧ W.cell? ⟨wr.heap.size, 8, none⟩ = some (.int .i64 x.f3.f2.f3) ∧ W.cell? ⟨wr.heap.size, 9, none⟩ = some (.int .u64 x.f3.f2.f4) ∧ W.cell? ⟨wr.heap.size, 10, none⟩ = some (.int .i64 x.f3.f2.f5) ∧ W.cell? ⟨wr.heap.size, 11, none⟩ = some (.int .i64 x.f3.f2.f6) ∧ W.cell? ⟨wr.heap.size, 12, none⟩ = some (.int .i64 x.f3.f2.f7) ∧ W.cell? ⟨wr.heap.size, 13, none⟩ = some (.int .i64 x.f3.f2.f8) ∧ W.cell? ⟨wr.heap.size, 14, none⟩ = some (.slice A x.f3.f3.length c) ∧ W.cell? ⟨wr.heap.size, 15, none⟩ = some (.int .u64 x.f3.f4) ∧ W.cell? ⟨wr.heap.size, 16, none⟩ = some (.int .i64 x.f3.f5) ∧ W.cell? ⟨wr.heap.size + 1, 0, none⟩ = some (.int .u64 x.f1) ∧ W.cell? ⟨wr.heap.size + 1, 1, none⟩ = some (.int .u64 x.f2)) w6 from ⟨blk_cell b376 0, blk_cell b376 1, blk_cell b376 2, blk_cell b376 3, blk_cell b376 4, blk_cell b376 5, blk_cell b376 6, blk_cell b376 7, blk_cell b376 8, blk_cell b376 9, blk_cell b376 10, blk_cell b376 11, blk_cell b376 12, blk_cell b376 13, blk_cell b376 14, blk_cell b376 15, blk_cell b376 16, blk_cell b386 0, blk_cell b386 1⟩)
              have K7 := Lib.hid (show (fun W : World => W.cell? ⟨wr.heap.size, 0, none⟩ = some (.int .i64 x.f0) ∧ W.cell? ⟨wr.heap.size, 1, none⟩ = some (.int .u64 x.f1) ∧ W.cell? ⟨wr.heap.size, 2, none⟩ = some (.int .u64 x.f2) ∧ W.cell? ⟨wr.heap.size, 3, none⟩ = some (.int .i64 x.f3.f0) ∧ W.cell? ⟨wr.heap.size, 4, none⟩ = some (.int .i64 x.f3.f1) ∧ W.cell? ⟨wr.heap.size, 5, none⟩ = some (.int .u64 x.f3.f2.f0) ∧ W.cell? ⟨wr.heap.size, 6, none⟩ = some (.int .i64 x.f3.f2.f1) ∧ W.cell? ⟨wr.heap.size, 7, none⟩ = some (.int .i64 x.f3.f2.f2) ∧ W.cell? ⟨wr.heap.size, 8, none⟩ = some (.int .i64 x.f3.f2.f3) ∧ W.cell? ⟨wr.heap.size, 9, none⟩ = some (.int .u64 x.f3.f2.f4) ∧ W.cell? ⟨wr.heap.size, 10, none⟩ = some (.int .i64 x.f3.f2.f5) ∧ W.cell? ⟨wr.heap.size, 11, none⟩ = some (.int .i64 x.f3.f2.f6) ∧ W.cell? ⟨wr.heap.size, 12, none⟩ = some (.int .i64 x.f3.f2.f7) ∧ W.cell? ⟨wr.heap.size, 13, none⟩ = some (.int .i64 x.f3.f2.f8) ∧ W.cell? ⟨wr.heap.size, 14, none⟩ = some (.slice A x.f3.f3.length c) ∧ W.cell? ⟨wr.heap.size, 15, none⟩ = some (.int .u64 x.f3.f4) ∧ W.cell? ⟨wr.heap.size, 16, none⟩ = some (.int .i64 x.f3.f5) ∧ W.cell? ⟨wr.heap.size + 1, 0, none⟩ = some (.int .u64 x.f1) ∧ W.cell? ⟨wr.heap.size + 1, 1, none⟩ = some (.int .u64 x.f2)) w7 from ⟨blk_cell b377 0, blk_cell b377 1, blk_cell b377 2, blk_cell b377 3, blk_cell b377 4, blk_cell b377 5, blk_cell b377 6, blk_cell b377 7, blk_cell b377 8, blk_cell b377 9, blk_cell b377 10, blk_cell b377 11, blk_cell b377 12, blk_cell b377 13, blk_cell b377 14, blk_cell b377 15, blk_cell b377 16, blk_cell b387 0, blk_cell b387 1⟩)
              have U5 := Lib.hid ((HU.out.below O3.out.bel).store O3.out.T.map hg5)
              have ON := Lib.hid (O3.out.stored HW.out.1 HW.out.2 hm5 hg5 hm6 (show w5.grownBy w6 (some dm) from ⟨hg6.os, hg6.tape, hg6.output, hg6.size, hg6.block⟩) hm7 hg7 hU5 hc5 U5.out hlc (by omega) HOld.out)
              clear b375 b385 b376 b386 b377 b387 hm5 hg5 hm6 hg6 hm7 hg7 hU5
              as_aux_lemma =>
               go_region_held3 (fun W => W.cell? ⟨wr.heap.size, 0, none⟩ = some (.int .i64 x.f0) ∧ W.cell? ⟨wr.heap.size, 1, none⟩ = some (.int .u64 x.f1) ∧ W.cell? ⟨wr.heap.size, 2, none⟩ = some (.int .u64 x.f2) ∧ W.cell? ⟨wr.heap.size, 3, none⟩ = some (.int .i64 x.f3.f0) ∧ W.cell? ⟨wr.heap.size, 4, none⟩ = some (.int .i64 x.f3.f1) ∧ W.cell? ⟨wr.heap.size, 5, none⟩ = some (.int .u64 x.f3.f2.f0) ∧ W.cell? ⟨wr.heap.size, 6, none⟩ = some (.int .i64 x.f3.f2.f1) ∧ W.cell? ⟨wr.heap.size, 7, none⟩ = some (.int .i64 x.f3.f2.f2) ∧ W.cell? ⟨wr.heap.size, 8, none⟩ = some (.int .i64 x.f3.f2.f3) ∧ W.cell? ⟨wr.heap.size, 9, none⟩ = some (.int .u64 x.f3.f2.f4) ∧ W.cell? ⟨wr.heap.size, 10, none⟩ = some (.int .i64 x.f3.f2.f5) ∧ W.cell? ⟨wr.heap.size, 11, none⟩ = some (.int .i64 x.f3.f2.f6) ∧ W.cell? ⟨wr.heap.size, 12, none⟩ = some (.int .i64 x.f3.f2.f7) ∧ W.cell? ⟨wr.heap.size, 13, none⟩ = some (.int .i64 x.f3.f2.f8) ∧ W.cell? ⟨wr.heap.size, 14, none⟩ = some (.slice A x.f3.f3.length c) ∧ W.cell? ⟨wr.heap.size, 15, none⟩ = some (.int .u64 x.f3.f4) ∧ W.cell? ⟨wr.heap.size, 16, none⟩ = some (.int .i64 x.f3.f5) ∧ W.cell? ⟨wr.heap.size + 1, 0, none⟩ = some (.int .u64 x.f1) ∧ W.cell? ⟨wr.heap.size + 1, 1, none⟩ = some (.int .u64 x.f2))
                 (first | exact K5.out | exact K6.out | exact K7.out)
                 (first | fail)
               all_goals
                as_aux_lemma =>
                 go_wp2
                 go_roundw
                 case rel => exact ⟨k + 1, by go_num, hlt, _, _, _, ON.out⟩
                 case measure => simp [intOf]; omega
        · by_cases he : x.f2 = y.f2
          · as_aux_lemma =>
              have hne : (y.f2 != x.f2) = false := by simp [he]
              have HLk := Lib.hid (show Looks wr tm x.f1 x.f2 y.f3 Ay cpy true by rw [he]; exact HLk0.out)
              clear he
              have BW : Below wr.heap.size wr ((wr.alloc (.cells #[.int .i64 x.f0, .int .u64 x.f1, .int .u64 x.f2, .int .i64 x.f3.f0, .int .i64 x.f3.f1, .int .u64 x.f3.f2.f0, .int .i64 x.f3.f2.f1, .int .i64 x.f3.f2.f2, .int .i64 x.f3.f2.f3, .int .u64 x.f3.f2.f4, .int .i64 x.f3.f2.f5, .int .i64 x.f3.f2.f6, .int .i64 x.f3.f2.f7, .int .i64 x.f3.f2.f8, .slice A x.f3.f3.length c, .int .u64 x.f3.f4, .int .i64 x.f3.f5] 37)).alloc (.cells #[.int .u64 x.f1, .int .u64 x.f2] 38)) := (alloc_below _ _).trans ((alloc_below _ _).mono (by simp))
              have HB37 := Lib.hid (blk_alloc (heap_alloc_new wr (.cells #[.int .i64 x.f0, .int .u64 x.f1, .int .u64 x.f2, .int .i64 x.f3.f0, .int .i64 x.f3.f1, .int .u64 x.f3.f2.f0, .int .i64 x.f3.f2.f1, .int .i64 x.f3.f2.f2, .int .i64 x.f3.f2.f3, .int .u64 x.f3.f2.f4, .int .i64 x.f3.f2.f5, .int .i64 x.f3.f2.f6, .int .i64 x.f3.f2.f7, .int .i64 x.f3.f2.f8, .slice A x.f3.f3.length c, .int .u64 x.f3.f4, .int .i64 x.f3.f5] 37)) (.cells #[.int .u64 x.f1, .int .u64 x.f2] 38))
              have HB38 := Lib.hid (show ((wr.alloc (.cells #[.int .i64 x.f0, .int .u64 x.f1, .int .u64 x.f2, .int .i64 x.f3.f0, .int .i64 x.f3.f1, .int .u64 x.f3.f2.f0, .int .i64 x.f3.f2.f1, .int .i64 x.f3.f2.f2, .int .i64 x.f3.f2.f3, .int .u64 x.f3.f2.f4, .int .i64 x.f3.f2.f5, .int .i64 x.f3.f2.f6, .int .i64 x.f3.f2.f7, .int .i64 x.f3.f2.f8, .slice A x.f3.f3.length c, .int .u64 x.f3.f4, .int .i64 x.f3.f5] 37)).alloc (.cells #[.int .u64 x.f1, .int .u64 x.f2] 38)).heap[wr.heap.size + 1]? = some (.cells #[.int .u64 x.f1, .int .u64 x.f2] 38 (0, 0)) by have := heap_alloc_new (wr.alloc (.cells #[.int .i64 x.f0, .int .u64 x.f1, .int .u64 x.f2, .int .i64 x.f3.f0, .int .i64 x.f3.f1, .int .u64 x.f3.f2.f0, .int .i64 x.f3.f2.f1, .int .i64 x.f3.f2.f2, .int .i64 x.f3.f2.f3, .int .u64 x.f3.f2.f4, .int .i64 x.f3.f2.f5, .int .i64 x.f3.f2.f6, .int .i64 x.f3.f2.f7, .int .i64 x.f3.f2.f8, .slice A x.f3.f3.length c, .int .u64 x.f3.f4, .int .i64 x.f3.f5] 37)) (.cells #[.int .u64 x.f1, .int .u64 x.f2] 38); rw [World.size_alloc] at this; exact this)
              have OW := Lib.hid (O.below BW)
              have LW := Lib.hid (HLk.out.below BW)
              clear BW
              go_wp2_with (first
                | (go_at_call 10; (with_reducible refine (look_again _ _ _ OW.out.T.c0 LW.out (HUy.out.below ?bw) hcy (by omega)).mono ?_); (case bw => exact (alloc_below _ _).trans ((alloc_below _ _).mono (by simp))); rintro e w3 ⟨A', c', rfl, hU3, hc3, hb3⟩; have hs3 : wr.heap.size + 1 < w3.heap.size := (by have := hb3.size; simp at this; omega); have hs3' : wr.heap.size < w3.heap.size := (by omega); have bk37 := blk_below HB37.out hb3; have bk38 := blk_below HB38.out hb3; have e0 : w3.cell? ⟨wr.heap.size, 0, none⟩ = some (.int .i64 x.f0) := (blk_cell bk37 0).trans rfl; have e1 : w3.cell? ⟨wr.heap.size, 1, none⟩ = some (.int .u64 x.f1) := (blk_cell bk37 1).trans rfl; have e2 : w3.cell? ⟨wr.heap.size, 2, none⟩ = some (.int .u64 x.f2) := (blk_cell bk37 2).trans rfl; have e3 : w3.cell? ⟨wr.heap.size, 3, none⟩ = some (.int .i64 x.f3.f0) := (blk_cell bk37 3).trans rfl; have e4 : w3.cell? ⟨wr.heap.size, 4, none⟩ = some (.int .i64 x.f3.f1) := (blk_cell bk37 4).trans rfl; have e5 : w3.cell? ⟨wr.heap.size, 5, none⟩ = some (.int .u64 x.f3.f2.f0) := (blk_cell bk37 5).trans rfl; have e6 : w3.cell? ⟨wr.heap.size, 6, none⟩ = some (.int .i64 x.f3.f2.f1) := (blk_cell bk37 6).trans rfl; have e7 : w3.cell? ⟨wr.heap.size, 7, none⟩ = some (.int .i64 x.f3.f2.f2) := (blk_cell bk37 7).trans rfl; have e8 : w3.cell? ⟨wr.heap.size, 8, none⟩ = some (.int .i64 x.f3.f2.f3) := (blk_cell bk37 8).trans rfl; have e9 : w3.cell? ⟨wr.heap.size, 9, none⟩ = some (.int .u64 x.f3.f2.f4) := (blk_cell bk37 9).trans rfl; have e10 : w3.cell? ⟨wr.heap.size, 10, none⟩ = some (.int .i64 x.f3.f2.f5) := (blk_cell bk37 10).trans rfl; have e11 : w3.cell? ⟨wr.heap.size, 11, none⟩ = some (.int .i64 x.f3.f2.f6) := (blk_cell bk37 11).trans rfl; have e12 : w3.cell? ⟨wr.heap.size, 12, none⟩ = some (.int .i64 x.f3.f2.f7) := (blk_cell bk37 12).trans rfl; have e13 : w3.cell? ⟨wr.heap.size, 13, none⟩ = some (.int .i64 x.f3.f2.f8) := (blk_cell bk37 13).trans rfl; have e14 : w3.cell? ⟨wr.heap.size, 14, none⟩ = some (.slice A x.f3.f3.length c) := (blk_cell bk37 14).trans rfl; have e15 : w3.cell? ⟨wr.heap.size, 15, none⟩ = some (.int .u64 x.f3.f4) := (blk_cell bk37 15).trans rfl; have e16 : w3.cell? ⟨wr.heap.size, 16, none⟩ = some (.int .i64 x.f3.f5) := (blk_cell bk37 16).trans rfl; have k0 : w3.cell? ⟨wr.heap.size + 1, 0, none⟩ = some (.int .u64 x.f1) := (blk_cell bk38 0).trans rfl; have k1 : w3.cell? ⟨wr.heap.size + 1, 1, none⟩ = some (.int .u64 x.f2) := (blk_cell bk38 1).trans rfl; have B37 := Lib.hid (blk_alloc bk37 (.cells (rc y.f3 (.slice A' y.f3.f3.length c')) 35)); have B38 := Lib.hid (blk_alloc bk38 (.cells (rc y.f3 (.slice A' y.f3.f3.length c')) 35)); have hb3' := hb3.trans ((alloc_below w3 (.cells (rc y.f3 (.slice A' y.f3.f3.length c')) 35)).mono hb3.size); have O3 := Lib.hid (OW.out.below hb3'); have L3 := Lib.hid (LW.out.below hb3'); clear bk37 bk38 hb3'; have lkl := look28 O3.out.L HW.out.1 HG.out; have UA := Lib.hid (hU3.below (alloc_below w3 (.cells (rc y.f3 (.slice A' y.f3.f3.length c')) 35))); have UL := Lib.hid (HUl.out.below (((alloc_below _ _).trans ((alloc_below _ _).mono (by simp))).trans ((hb3.trans ((alloc_below w3 (.cells (rc y.f3 (.slice A' y.f3.f3.length c')) 35)).mono hb3.size)).mono (by simp; omega)))); clear hU3)
                | (go_at_call 11; (with_reducible refine (same_self _ y.f3 A' c' A2 cp2 UA.out hc3 UL.out hcl (by omega)).mono ?_); rintro e w4 ⟨rfl, hb4⟩; have O4 := Lib.hid (O3.out.below hb4); have L4 := Lib.hid (L3.out.below hb4); have h0 : w4.cell? ⟨wr.heap.size, 0, none⟩ = some (.int .i64 x.f0) := (blk_cell (blk_below B37.out hb4) 0).trans rfl; have h1 : w4.cell? ⟨wr.heap.size, 1, none⟩ = some (.int .u64 x.f1) := (blk_cell (blk_below B37.out hb4) 1).trans rfl; have h2 : w4.cell? ⟨wr.heap.size, 2, none⟩ = some (.int .u64 x.f2) := (blk_cell (blk_below B37.out hb4) 2).trans rfl; have h3 : w4.cell? ⟨wr.heap.size, 3, none⟩ = some (.int .i64 x.f3.f0) := (blk_cell (blk_below B37.out hb4) 3).trans rfl; have h4 : w4.cell? ⟨wr.heap.size, 4, none⟩ = some (.int .i64 x.f3.f1) := (blk_cell (blk_below B37.out hb4) 4).trans rfl; have h5 : w4.cell? ⟨wr.heap.size, 5, none⟩ = some (.int .u64 x.f3.f2.f0) := (blk_cell (blk_below B37.out hb4) 5).trans rfl; have h6 : w4.cell? ⟨wr.heap.size, 6, none⟩ = some (.int .i64 x.f3.f2.f1) := (blk_cell (blk_below B37.out hb4) 6).trans rfl; have h7 : w4.cell? ⟨wr.heap.size, 7, none⟩ = some (.int .i64 x.f3.f2.f2) := (blk_cell (blk_below B37.out hb4) 7).trans rfl; have h8 : w4.cell? ⟨wr.heap.size, 8, none⟩ = some (.int .i64 x.f3.f2.f3) := (blk_cell (blk_below B37.out hb4) 8).trans rfl; have h9 : w4.cell? ⟨wr.heap.size, 9, none⟩ = some (.int .u64 x.f3.f2.f4) := (blk_cell (blk_below B37.out hb4) 9).trans rfl; have h10 : w4.cell? ⟨wr.heap.size, 10, none⟩ = some (.int .i64 x.f3.f2.f5) := (blk_cell (blk_below B37.out hb4) 10).trans rfl; have h11 : w4.cell? ⟨wr.heap.size, 11, none⟩ = some (.int .i64 x.f3.f2.f6) := (blk_cell (blk_below B37.out hb4) 11).trans rfl; have h12 : w4.cell? ⟨wr.heap.size, 12, none⟩ = some (.int .i64 x.f3.f2.f7) := (blk_cell (blk_below B37.out hb4) 12).trans rfl; have h13 : w4.cell? ⟨wr.heap.size, 13, none⟩ = some (.int .i64 x.f3.f2.f8) := (blk_cell (blk_below B37.out hb4) 13).trans rfl; have h14 : w4.cell? ⟨wr.heap.size, 14, none⟩ = some (.slice A x.f3.f3.length c) := (blk_cell (blk_below B37.out hb4) 14).trans rfl; have h15 : w4.cell? ⟨wr.heap.size, 15, none⟩ = some (.int .u64 x.f3.f4) := (blk_cell (blk_below B37.out hb4) 15).trans rfl; have h16 : w4.cell? ⟨wr.heap.size, 16, none⟩ = some (.int .i64 x.f3.f5) := (blk_cell (blk_below B37.out hb4) 16).trans rfl; have B374 := Lib.hid (blk_below B37.out hb4))
                | (go_at_call 12; (with_reducible refine (done_old _ _ _ O4.out.T.c0 L4.out (Int.le_refl _) x.f3 A c).mono ?_); rintro e w5 ⟨kk, rfl, hk, hb5⟩; have hk0 : (kk == 0) = false := (by simpa using hk)))
              go_roundw
              case rel => exact ⟨k + 1, by go_num, hlt, _, _, _, (O4.out.below hb5).mono (Nat.le_succ _)⟩
              case measure => simp [intOf]; omega
          · have HQ1 := Lib.hid (show x.f2 ≤ y.f2 by omega)
            have HQ2 := Lib.hid (show true = false ∨ x.f2 ≠ y.f2 from .inr he)
            have HLk := HLk0
            clear HLk0
            as_aux_lemma =>
              have BW : Below wr.heap.size wr ((wr.alloc (.cells #[.int .i64 x.f0, .int .u64 x.f1, .int .u64 x.f2, .int .i64 x.f3.f0, .int .i64 x.f3.f1, .int .u64 x.f3.f2.f0, .int .i64 x.f3.f2.f1, .int .i64 x.f3.f2.f2, .int .i64 x.f3.f2.f3, .int .u64 x.f3.f2.f4, .int .i64 x.f3.f2.f5, .int .i64 x.f3.f2.f6, .int .i64 x.f3.f2.f7, .int .i64 x.f3.f2.f8, .slice A x.f3.f3.length c, .int .u64 x.f3.f4, .int .i64 x.f3.f5] 37)).alloc (.cells #[.int .u64 x.f1, .int .u64 x.f2] 38)) := (alloc_below _ _).trans ((alloc_below _ _).mono (by simp))
              have HB37 := Lib.hid (blk_alloc (heap_alloc_new wr (.cells #[.int .i64 x.f0, .int .u64 x.f1, .int .u64 x.f2, .int .i64 x.f3.f0, .int .i64 x.f3.f1, .int .u64 x.f3.f2.f0, .int .i64 x.f3.f2.f1, .int .i64 x.f3.f2.f2, .int .i64 x.f3.f2.f3, .int .u64 x.f3.f2.f4, .int .i64 x.f3.f2.f5, .int .i64 x.f3.f2.f6, .int .i64 x.f3.f2.f7, .int .i64 x.f3.f2.f8, .slice A x.f3.f3.length c, .int .u64 x.f3.f4, .int .i64 x.f3.f5] 37)) (.cells #[.int .u64 x.f1, .int .u64 x.f2] 38))
              have HB38 := Lib.hid (show ((wr.alloc (.cells #[.int .i64 x.f0, .int .u64 x.f1, .int .u64 x.f2, .int .i64 x.f3.f0, .int .i64 x.f3.f1, .int .u64 x.f3.f2.f0, .int .i64 x.f3.f2.f1, .int .i64 x.f3.f2.f2, .int .i64 x.f3.f2.f3, .int .u64 x.f3.f2.f4, .int .i64 x.f3.f2.f5, .int .i64 x.f3.f2.f6, .int .i64 x.f3.f2.f7, .int .i64 x.f3.f2.f8, .slice A x.f3.f3.length c, .int .u64 x.f3.f4, .int .i64 x.f3.f5] 37)).alloc (.cells #[.int .u64 x.f1, .int .u64 x.f2] 38)).heap[wr.heap.size + 1]? = some (.cells #[.int .u64 x.f1, .int .u64 x.f2] 38 (0, 0)) by have := heap_alloc_new (wr.alloc (.cells #[.int .i64 x.f0, .int .u64 x.f1, .int .u64 x.f2, .int .i64 x.f3.f0, .int .i64 x.f3.f1, .int .u64 x.f3.f2.f0, .int .i64 x.f3.f2.f1, .int .i64 x.f3.f2.f2, .int .i64 x.f3.f2.f3, .int .u64 x.f3.f2.f4, .int .i64 x.f3.f2.f5, .int .i64 x.f3.f2.f6, .int .i64 x.f3.f2.f7, .int .i64 x.f3.f2.f8, .slice A x.f3.f3.length c, .int .u64 x.f3.f4, .int .i64 x.f3.f5] 37)) (.cells #[.int .u64 x.f1, .int .u64 x.f2] 38); rw [World.size_alloc] at this; exact this)
              have OW := Lib.hid (O.below BW)
              have LW := Lib.hid (HLk.out.below BW)
              clear BW
              go_wp2_with (first
                | (go_at_call 10; (with_reducible refine (look_old _ _ _ OW.out.T.c0 LW.out HQ1.out HQ2.out).mono ?_); rintro e w3 ⟨rfl, hb3⟩; have hs3 : wr.heap.size + 1 < w3.heap.size := (by have := hb3.size; simp at this; omega); have hs3' : wr.heap.size < w3.heap.size := (by omega); have bk37 := blk_below HB37.out hb3; have bk38 := blk_below HB38.out hb3; have e0 : w3.cell? ⟨wr.heap.size, 0, none⟩ = some (.int .i64 x.f0) := (blk_cell bk37 0).trans rfl; have e1 : w3.cell? ⟨wr.heap.size, 1, none⟩ = some (.int .u64 x.f1) := (blk_cell bk37 1).trans rfl; have e2 : w3.cell? ⟨wr.heap.size, 2, none⟩ = some (.int .u64 x.f2) := (blk_cell bk37 2).trans rfl; have e3 : w3.cell? ⟨wr.heap.size, 3, none⟩ = some (.int .i64 x.f3.f0) := (blk_cell bk37 3).trans rfl; have e4 : w3.cell? ⟨wr.heap.size, 4, none⟩ = some (.int .i64 x.f3.f1) := (blk_cell bk37 4).trans rfl; have e5 : w3.cell? ⟨wr.heap.size, 5, none⟩ = some (.int .u64 x.f3.f2.f0) := (blk_cell bk37 5).trans rfl; have e6 : w3.cell? ⟨wr.heap.size, 6, none⟩ = some (.int .i64 x.f3.f2.f1) := (blk_cell bk37 6).trans rfl; have e7 : w3.cell? ⟨wr.heap.size, 7, none⟩ = some (.int .i64 x.f3.f2.f2) := (blk_cell bk37 7).trans rfl; have e8 : w3.cell? ⟨wr.heap.size, 8, none⟩ = some (.int .i64 x.f3.f2.f3) := (blk_cell bk37 8).trans rfl; have e9 : w3.cell? ⟨wr.heap.size, 9, none⟩ = some (.int .u64 x.f3.f2.f4) := (blk_cell bk37 9).trans rfl; have e10 : w3.cell? ⟨wr.heap.size, 10, none⟩ = some (.int .i64 x.f3.f2.f5) := (blk_cell bk37 10).trans rfl; have e11 : w3.cell? ⟨wr.heap.size, 11, none⟩ = some (.int .i64 x.f3.f2.f6) := (blk_cell bk37 11).trans rfl; have e12 : w3.cell? ⟨wr.heap.size, 12, none⟩ = some (.int .i64 x.f3.f2.f7) := (blk_cell bk37 12).trans rfl; have e13 : w3.cell? ⟨wr.heap.size, 13, none⟩ = some (.int .i64 x.f3.f2.f8) := (blk_cell bk37 13).trans rfl; have e14 : w3.cell? ⟨wr.heap.size, 14, none⟩ = some (.slice A x.f3.f3.length c) := (blk_cell bk37 14).trans rfl; have e15 : w3.cell? ⟨wr.heap.size, 15, none⟩ = some (.int .u64 x.f3.f4) := (blk_cell bk37 15).trans rfl; have e16 : w3.cell? ⟨wr.heap.size, 16, none⟩ = some (.int .i64 x.f3.f5) := (blk_cell bk37 16).trans rfl; have k0 : w3.cell? ⟨wr.heap.size + 1, 0, none⟩ = some (.int .u64 x.f1) := (blk_cell bk38 0).trans rfl; have k1 : w3.cell? ⟨wr.heap.size + 1, 1, none⟩ = some (.int .u64 x.f2) := (blk_cell bk38 1).trans rfl; have B37 := Lib.hid (blk_alloc bk37 (.cells rz 35)); have B38 := Lib.hid (blk_alloc bk38 (.cells rz 35)); have hb3' := hb3.trans ((alloc_below w3 (.cells rz 35)).mono hb3.size); have O3 := Lib.hid (OW.out.below hb3'); have L3 := Lib.hid (LW.out.below hb3'); clear bk37 bk38 hb3')
                | (go_at_call 12; (with_reducible refine (done_old _ _ _ O3.out.T.c0 L3.out HQ1.out x.f3 A c).mono ?_); rintro e w5 ⟨kk, rfl, hk, hb5⟩; have hk0 : (kk == 0) = false := (by simpa using hk)))
              go_roundw
              case rel => exact ⟨k + 1, by go_num, hlt, _, _, _, (O3.out.below hb5).mono (Nat.le_succ _)⟩
              case measure => simp [intOf]; omega
    · go_wp2_with (go_at_call 8; refine (lives_true _).mono ?_; rintro e w2 ⟨rfl, hb2⟩)
      go_ret
      exact ⟨rfl, O.bel.trans (hb2.mono O.bel.size)⟩

/-! ### The row's step -/
set_option maxRecDepth 100000 in
theorem lifted (os : Os) (started : os.Started) (H : Type) (enc : TypeId × Value → H) :
    ReturnsInHanded {} Try.checked os 3 .any (Rows.sessionOnceSpec.pre6 enc Try.prog Try.f3 Rows.sessionOnceRow.domain false) (Rows.sessionOnceSpec.post enc Try.prog Try.f3 false true false false) := by
  refine returnsInHanded_of_change (C := Try.checked) own started (by kernel_rfl) Try.func3
    (ChangeSpec.witness6 (enc := enc) (C := Try.checked) false ⟨#[], #[.slice none 0 0], []⟩ 8 (by kernel_rfl) (by kernel_rfl) (by kernel_rfl) (by kernel_rfl)) ?_
  intro W base args ds gs before hval0 hW hcnd _
  have hval : ∀ (j : Nat) t v, Try.f3.params[j]? = some t → args[j]? = some v → Value.okWide Try.prog W .any base t v := hval0
  have hW' := hW
  obtain ⟨p, q, hA0, hV, rfl, hfz, hnd⟩ := hW
  have hA : DataW.TrodAll enc Try.prog W 0 (fun _ => true) true Try.f3.params.toList args.toList ds p := hA0
  rw [Try.params3] at hA hval
  obtain ⟨v0, vs0, d0, ds0, p0, q0, hargs, rfl, rfl, h0, r0⟩ := trodAll_cons hA
  obtain ⟨rfl, rfl, rfl⟩ := trodAll_nil r0
  obtain rfl : args = #[v0] := by cases args; simp_all
  obtain ⟨rfl, rfl⟩ := trodVars_none hV
  obtain ⟨a0, len0, cap0, rfl⟩ := okWide_slice Try.underlying22 (hval 0 22 v0 rfl rfl)
  have k0 := h0
  have lt0 : ∀ x ∈ p0, x.block < W.heap.size := by obtain ⟨m, hm⟩ := k0; exact DataW.trod_lt m _ _ _ hm
  have hops0 : IsOps W a0 len0 := by obtain ⟨fuel, hf⟩ := h0; exact isOps hf
  clear hA0 hval0
  refine (walk a0 len0 cap0 W hops0).mono fun e W' ⟨he, bel⟩ => ?_
  subst he
  exact ⟨_, rfl, _, _, _, [], _, [], hW', trodAll_mk1 (shut_bool Try.underlying4 _), (trodAll_cons_mk (Below.trod laidOut (by kernel_rfl) (of_decide_eq_true (by kernel_rfl)) k0 bel lt0) trodAll_mk0), rfl, bel.frame _, fun h => by cases h⟩

theorem over : Rows.sessionOnceRow.holds Try.pinned (OpenSpec.ofChange Rows.sessionOnceSpec) :=
  OpenClaim.holds_of_wide 3 Try.f3 rfl rfl rfl rfl rfl rfl rfl ⟨rfl, rfl, rfl, rfl, rfl⟩ rfl rfl rfl rfl rfl (by kernel_rfl) Try.func3 (by kernel_rfl)
    (of_decide_eq_true (by kernel_rfl)) (by unfold Func.isWrapper; first | (rw [if_pos (by decide +kernel)]; kernel_rfl) | (rw [if_neg (by decide +kernel)]; exact ⟨rfl, rfl⟩))
    (fun os started H enc _ => lifted os started H enc)

/-- The statement. -/
theorem proved : Rows.SessionOnceSaid := over
#print axioms proved
end Go.Proofs.Ytnffdpilaojgpaa.sessionOnce
