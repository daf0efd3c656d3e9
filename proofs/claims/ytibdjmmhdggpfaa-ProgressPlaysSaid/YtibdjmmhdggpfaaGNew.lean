/-
  A table's Set and New, walked.
-/
import Derived.Test.YtibdjmmhdggpfaaGSet
namespace Go.Proofs.Ytibdjmmhdggpfaa
set_option linter.unusedVariables false
set_option linter.unusedSimpArgs false
open Go.RowKit Go.Maps Go.Proofs.YtibdjmmhdggpfaaW.PrintWords Go.Proofs.YtibdjmmhdggpfaaW.PrintMore Go.Proofs.Ytibdjmmhdggpfaa.PPollPlays Go.Proofs.Ytibdjmmhdggpfaa.pure Go.Proofs.Ytibdjmmhdggpfaa.fmap

theorem set_far (w : World) (B b bm : Nat) (bl : Int → Nat) (t : Tb) (h : TAt w B b bm bl t) (A : Option Addr) (c n : Nat) (last : Int) (hl : ¬ last ≤ IX) :
    Calls Try.prog 38 #[.pointer (some ⟨b, 0, none⟩), .slice A n c, .int .u64 last] w (Moves w B b bm bl t t (.bool false)) := by
  have hq : decide ((1152921504606846976 : Int) < last) = true := by unfold IX at hl; simp; omega
  have q := fun (w : World) (r : Option Nat) => run_eql_map_nil (P := Try.prog) w _ _ _ r Try.underlying75
  have HH := Lib.hid h
  have h0 := h.c0
  have hlt := blk_lt h.blk
  clear h hl
  go_enter Try.func38, Try.ntmps38
  go_wp2
  go_ret
  exact moves_same HH.out (alloc_below _ _)

/-- At the head of a round of Set. -/
structure SetR (w : World) (B b bm : Nat) (bl : Int → Nat) (t : Tb) (A : Option Addr) (l : List Int) (last : Int) (k : Nat) (wr : World) : Prop where
  at_ : ∃ bl', TAt wr B b bm bl' (addk t l last k) ∧ Step bm bl t bl' (addk t l last k) w wr
  C : IntC wr A l
set_option maxRecDepth 100000 in
set_option maxHeartbeats 2000000 in
theorem set_near (w : World) (B b bm : Nat) (bl : Int → Nat) (t : Tb) (h : TAt w B b bm bl t) (A : Option Addr) (c : Nat) (l : List Int) (hC : IntC w A l) (hc : l.length ≤ c) (hl : l.length ≤ 100) (last : Int) (hw : (Lit.int .u64 last).wf = true) (hx : last ≤ IX) :
    Calls Try.prog 38 #[.pointer (some ⟨b, 0, none⟩), .slice A l.length c, .int .u64 last] w (Moves w B b bm bl t (news t l last) (.bool true)) := by
  have hq : decide ((1152921504606846976 : Int) < last) = false := by unfold IX at hx; simp; omega
  have q := fun (w : World) (r : Option Nat) => run_eql_map_nil (P := Try.prog) w _ _ _ r Try.underlying75
  have h0 := h.c0
  have hlt := blk_lt h.blk
  have hw1 := wrap_i hw (n := IX + 1) (by omega) (Int.le_refl _)
  have HX := Lib.hid (And.intro (wf_u64 hw).1 hx)
  have ha := h.below (alloc_below w (.cells #[.slice A l.length c] 22))
  have hCa := hC.below (alloc_below w (.cells #[.slice A l.length c] 22))
  have HD := Lib.hid (delete_ok (w.alloc (.cells #[.slice A l.length c] 22)) bm 0 #[.pointer (some ⟨w.heap.size, 0, none⟩)] (tabf bl t) (fun x => !decide (x ∈ l)) ha.map (fun W x v hg => by
    have hC2 : IntC W A l := by
      by_cases e0 : l = []
      · subst e0; exact IntC.nil
      · exact hCa.kept hg (hCa.map_ne e0 ha.map)
    exact closure_ok W w.heap.size A c l hC2 hc hl (hg.cell (by rw [World.cell?_alloc_at _ _ _ _ (by simp)]; rfl) (by intro e; have h1 : w.heap.size = bm := Option.some.inj e; have h2 := h.map.lt; omega)) x v))
  have HA := Lib.hid ha
  have HCa := Lib.hid hCa
  have HH := Lib.hid h
  clear h hC hx ha hCa
  go_enter Try.func38, Try.ntmps38
  go_wp2_with (go_at_call 64; refine HD.out.mono ?_; rintro e w1 ⟨rfl, hm1, hg1⟩; have hbox : w1.cell? ⟨w.heap.size, 0, none⟩ = some (.slice A l.length c) := hg1.cell (by rw [World.cell?_alloc_at _ _ _ _ (by simp)]; rfl) (by intro e; have h1 : w.heap.size = bm := Option.some.inj e; have h2 := HH.out.map.lt; omega))
  have hp := HA.out.picked l (by rw [← cur_pick]; exact hm1) hg1
  have R0 : SetR w B b bm bl t A l last 0 w1 := ⟨⟨bl, by rw [addk_zero]; exact ⟨hp.1, (Step.of_below (alloc_below _ _)).trans hp.2⟩⟩, HCa.out.step HA.out hp.2⟩
  clear HD hp hm1 hg1 hbox q h0
  go_loopw [30] (fun i wr => ∃ k : Nat, i = .int .i64 k ∧ k ≤ l.length ∧ SetR w B b bm bl t A l last k wr) (fun i _ => l.length - (intOf i).toNat)
  case atStart => exact ⟨0, rfl, Nat.zero_le _, R0⟩
  case round =>
    clear R0
    obtain ⟨k, rfl, hk, R⟩ := hrel
    obtain ⟨bl', hT, hS⟩ := R.at_
    have h0 := hT.c0
    by_cases hlt2 : k < l.length
    · obtain ⟨ad, rfl, hcell⟩ := (IntC_iff.1 R.C).2 (by omega)
      have hck := hcell k hlt2
      have HC := Lib.hid R.C
      have HT := Lib.hid hT
      have HS := Lib.hid hS
      generalize hx : l[k] = x at hck
      have HXE := Lib.hid hx
      have hblt := blk_lt hT.blk
      clear hcell R hx
      by_cases hx0 : 0 ≤ x
      · by_cases hx7 : x < 7
        · have hwx : (Lit.int .i64 x).wf = true := WalkArith.wf_i64 (by omega)
          have hkey := keyOf_int_mk Try.underlying3 hwx
          rcases hin : addk t l last k x with _ | y
          · have hlk := look75 hT.map x hwx
            rw [hin] at hlk
            simp at hlk
            have HM := Lib.hid (hT.map.alloc (.cells (lc (nl last)) 66))
            have HIN := Lib.hid hin
            clear hT hS hin
            go_wp2_with (at_mapUpdate; refine wpList_store _ rfl _ _ _ 75 rfl 3 92 law3 Try.underlying75 bm 7 (tabf bl' (addk t l last k)) rfl HM.out (by unfold maxLen; omega) _ (.pointer (some ⟨wr.heap.size, 0, none⟩)) _ rfl rfl hkey ?_; intro w2 hm2 hg2 _)
            have hadd := HT.out.add HIN.out (by omega) (nl_ok HX.out.1 HX.out.2) hm2 hg2
            have he := addk_new (t := t) l last hlt2 (by rw [HXE.out]; exact HIN.out) (by rw [HXE.out]; omega)
            rw [HXE.out] at he
            have hCn := HC.out.step HT.out hadd.2
            have hSn := HS.out.trans hadd.2
            rw [← he] at hadd hSn
            go_roundw
            case rel => exact ⟨k + 1, by go_num, hlt2, ⟨⟨_, hadd.1, hSn⟩, hCn⟩⟩
            case measure => simp [intOf]; omega
          · have hlk := look75 hT.map x hwx
            rw [hin] at hlk
            simp at hlk
            have HIN := Lib.hid (addk_stay (t := t) l last hlt2 (by rw [HXE.out, hin]; exact .inl rfl))
            clear hT hS hin
            go_wp2
            go_roundw
            case rel => exact ⟨k + 1, by go_num, hlt2, ⟨⟨bl', by rw [HIN.out]; exact ⟨HT.out, HS.out⟩⟩, HC.out⟩⟩
            case measure => simp [intOf]; omega
        · have HIN := Lib.hid (addk_stay (t := t) l last hlt2 (by rw [HXE.out]; exact .inr (by omega)))
          clear hT hS
          go_wp2
          go_roundw
          case rel => exact ⟨k + 1, by go_num, hlt2, ⟨⟨bl', by rw [HIN.out]; exact ⟨HT.out, HS.out⟩⟩, HC.out⟩⟩
          case measure => simp [intOf]; omega
      · have HIN := Lib.hid (addk_stay (t := t) l last hlt2 (by rw [HXE.out]; exact .inr (by omega)))
        clear hT hS
        go_wp2
        go_roundw
        case rel => exact ⟨k + 1, by go_num, hlt2, ⟨⟨bl', by rw [HIN.out]; exact ⟨HT.out, HS.out⟩⟩, HC.out⟩⟩
        case measure => simp [intOf]; omega
    · have HT := Lib.hid hT
      have HS := Lib.hid hS
      have HE := Lib.hid (addk_all HH.out.ok l last (k := k) (by omega))
      clear hT hS R
      go_wp2
      go_ret
      refine ⟨rfl, bl', ?_⟩
      rw [← HE.out]
      exact ⟨HT.out, HS.out⟩

theorem tab_new (w : World) : TAt ((w.alloc (.map #[] 0)).alloc (.cells #[.map (some w.heap.size)] 77)) w.heap.size (w.heap.size + 1) w.heap.size (fun _ => 0) (fun _ => none) where
  blk := by have := heap_alloc_new (w.alloc (.map #[] 0)) (.cells #[.map (some w.heap.size)] 77); simpa using this
  map := by
    rw [tabf_none]
    exact ((FM.made _ _ _).mono (Nat.zero_le _)).alloc _
  line := fun k x h => by cases h
  inj := fun j k h => by cases h
  ok := ⟨(fun k x h => by cases h), (fun k x h => by cases h)⟩
  lo := by omega
  los := by
    rintro k (rfl | ⟨j, hj, _⟩)
    · exact Nat.le_refl _
    · cases hj
theorem new_below (w : World) : Below w.heap.size w ((w.alloc (.map #[] 0)).alloc (.cells #[.map (some w.heap.size)] 77)) := (alloc_below _ _).trans ((alloc_below _ _).mono (by simp))
/-- What New leaves. -/
def NewT (w : World) (t : Tb) (e : Ending) (w' : World) : Prop := ∃ b bm bl, e = .returned (.pointer (some ⟨b, 0, none⟩)) ∧ TAt w' w.heap.size b bm bl t ∧ Below w.heap.size w w'
theorem tnew_far (w : World) (A : Option Addr) (c n : Nat) (last : Int) (hl : ¬ last ≤ IX) :
    Calls Try.prog 24 #[.slice A n c, .int .u64 last] w fun e w' => e = .returned (.pointer none) ∧ Below w.heap.size w w' := by
  have HS := Lib.hid (set_far _ _ _ _ _ _ (tab_new w) A c n last hl)
  have HT := Lib.hid (tab_new w)
  have HB := Lib.hid (new_below w)
  have hmm := @run_makeMap Try.prog
  clear hl
  go_enter Try.func24, Try.ntmps24
  go_wp2_with (go_at_call 38; refine HS.out.mono ?_; rintro e w1 ⟨rfl, bl', hT, hS⟩)
  go_ret
  exact ⟨rfl, hS.bel HT.out HB.out⟩
theorem tnew_ok (w : World) (A : Option Addr) (c : Nat) (l : List Int) (hC : IntC w A l) (hc : l.length ≤ c) (hl : l.length ≤ 100) (last : Int) (hw : (Lit.int .u64 last).wf = true) (hx : last ≤ IX) :
    Calls Try.prog 24 #[.slice A l.length c, .int .u64 last] w (NewT w (news (fun _ => none) l last)) := by
  have HS := Lib.hid (set_near _ _ _ _ _ _ (tab_new w) A c l (hC.below (new_below w)) hc hl last hw hx)
  have HT := Lib.hid (tab_new w)
  have HB := Lib.hid (new_below w)
  have hmm := @run_makeMap Try.prog
  clear hx hC
  go_enter Try.func24, Try.ntmps24
  go_wp2_with (go_at_call 38; refine HS.out.mono ?_; rintro e w1 ⟨rfl, bl', hT, hS⟩)
  go_ret
  exact ⟨_, _, _, rfl, hT, hS.bel HT.out HB.out⟩
end Go.Proofs.Ytibdjmmhdggpfaa
