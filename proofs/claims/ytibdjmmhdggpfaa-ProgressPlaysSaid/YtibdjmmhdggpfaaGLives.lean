/-
  The laws' has and lives, and what a quorum has, in numbers.
-/
import Derived.Test.YtibdjmmhdggpfaaGDo
namespace Go.Proofs.Ytibdjmmhdggpfaa
set_option linter.unusedVariables false
set_option linter.unusedSimpArgs false
open Go.RowKit Go.Maps Go.Proofs.YtibdjmmhdggpfaaW.PrintWords Go.Proofs.YtibdjmmhdggpfaaW.PrintMore Go.Proofs.Ytibdjmmhdggpfaa.PPollPlays Go.Proofs.Ytibdjmmhdggpfaa.pure Go.Proofs.Ytibdjmmhdggpfaa.fmap

/-- What a node has. -/
def hasv (t : Tb) (self own : Int) (n : Int) : Int := if n = self then own else (lnz t n).m
theorem vals_m (t : Tb) (self own : Int) (l : List Int) : vals t self own (·.m) l = l.map (hasv t self own) := rfl

set_option maxRecDepth 100000 in
theorem hasv_ok (w : World) (p : Value) (t : Tb) (hL : LineAt w p t) (n self own : Int) (hw : (Lit.int .i64 n).wf = true) :
    Calls Try.prog 27 #[p, .int .i64 n, .int .i64 self, .int .u64 own] w fun e w' => e = .returned (.int .u64 (hasv t self own n)) ∧ Below w.heap.size w w' := by
  have HL := Lib.hid (hL w n (Below.refl _ _) hw)
  have hu := Try.underlying66
  by_cases e : n = self
  · have hb : (n == self) = true := by simpa using e
    have HE := Lib.hid (show hasv t self own n = own by unfold hasv; rw [if_pos e])
    clear e hL
    go_enter Try.func27, Try.ntmps27
    go_wp2
    go_ret
    exact ⟨by rw [HE.out]; rfl, Below.refl _ _⟩
  · have hb : (n == self) = false := by simpa using e
    have HE := Lib.hid (show hasv t self own n = (lnz t n).m by unfold hasv; rw [if_neg e])
    generalize lnz t n = x at HL HE
    generalize (t n).isSome = y at HL
    clear e hL
    go_enter Try.func27, Try.ntmps27
    go_wp2_with (go_at_call 28; refine HL.out.mono ?_; rintro e w1 ⟨rfl, hb1⟩)
    go_ret
    exact ⟨by rw [HE.out]; rfl, hb1.trans ((alloc_below _ _).mono hb1.size)⟩

/-- A quorum has v, and no quorum has more. -/
theorem Quo.counts {l : List Int} {v : Int} (h : Quo l v) : v ∈ l ∧ l.length < 2 * l.countP (fun x => decide (v ≤ x)) ∧ 2 * l.countP (fun x => decide (v < x)) ≤ l.length := by
  obtain ⟨r, hs, hp, hv⟩ := h
  have hlen := hp.length_eq
  rw [← hlen] at hv ⊢
  generalize hq : r.length - (r.length / 2 + 1) = q at hv
  obtain ⟨hlt, hget⟩ := List.getElem?_eq_some_iff.1 hv
  refine ⟨hp.subset (by rw [← hget]; exact List.getElem_mem hlt), ?_, ?_⟩
  · rw [← hp.countP_eq]
    have e : r = r.take q ++ r.drop q := (List.take_append_drop q r).symm
    have h2 : (r.drop q).countP (fun x => decide (v ≤ x)) = (r.drop q).length := by
      rw [List.countP_eq_length]
      intro x hx
      obtain ⟨i, hi, rfl⟩ := List.getElem_of_mem hx
      simp only [List.getElem_drop, decide_eq_true_eq]
      rw [← hget]
      by_cases h0 : i = 0
      · subst h0; exact Int.le_refl _
      · exact List.pairwise_iff_getElem.1 hs q (q + i) hlt (by simp at hi; omega) (by omega)
    have h3 := congrArg (List.countP (fun x => decide (v ≤ x))) e
    rw [List.countP_append, h2, List.length_drop] at h3
    omega
  · rw [← hp.countP_eq]
    have e : r = r.take (q + 1) ++ r.drop (q + 1) := (List.take_append_drop (q + 1) r).symm
    have h2 : (r.take (q + 1)).countP (fun x => decide (v < x)) = 0 := by
      rw [List.countP_eq_zero]
      intro x hx
      obtain ⟨i, hi, rfl⟩ := List.getElem_of_mem hx
      simp only [List.getElem_take, decide_eq_true_eq]
      rw [← hget]
      have hi2 : i < q + 1 := by simp at hi; omega
      by_cases h0 : i = q
      · subst h0; omega
      · have := List.pairwise_iff_getElem.1 hs i q (by omega) hlt (by omega)
        omega
    have h3 := congrArg (List.countP (fun x => decide (v < x))) e
    rw [List.countP_append, h2] at h3
    have h4 : (r.drop (q + 1)).countP (fun x => decide (v < x)) ≤ (r.drop (q + 1)).length := List.countP_le_length
    rw [List.length_drop] at h4
    omega

/-- The table that lives makes, and what it holds behind the first and the second Took. -/
def tl0 : Tb := news (fun _ => none) [1, 2] 5
def tl1 : Tb := took tl0 1 4
def tl2 : Tb := took tl1 2 7
theorem tl_facts : tookb tl0 1 4 = true ∧ tookb tl1 2 7 = true := by decide
theorem tl1_v : vals tl1 0 9 (·.m) [0, 1, 2] = [9, 4, 0] := by decide
theorem tl2_v : vals tl2 0 9 (·.m) [0, 1, 2] = [9, 4, 7] := by decide
theorem tl1_q {v : Int} (h : Quo (vals tl1 0 9 (·.m) [0, 1, 2]) v) : v = 4 := by
  rw [tl1_v] at h
  obtain ⟨hm, h1, h2⟩ := h.counts
  simp at hm
  rcases hm with rfl | rfl | rfl
  · exact absurd h1 (by decide)
  · rfl
  · exact absurd h2 (by decide)
theorem tl2_q {v : Int} (h : Quo (vals tl2 0 9 (·.m) [0, 1, 2]) v) : v = 7 := by
  rw [tl2_v] at h
  obtain ⟨hm, h1, h2⟩ := h.counts
  simp at hm
  rcases hm with rfl | rfl | rfl
  · exact absurd h1 (by decide)
  · exact absurd h2 (by decide)
  · rfl
theorem two_C (w : World) : IntC (w.alloc (.cells #[.int .i64 1, .int .i64 2] 3)) (some ⟨w.heap.size, 0, none⟩) [1, 2] := by
  rw [IntC_iff]
  refine ⟨by simp, fun _ => ⟨_, rfl, fun j hj => ?_⟩⟩
  have hj' : j < 2 := hj
  have : j = 0 ∨ j = 1 := by omega
  have hn := heap_alloc_new w (.cells #[.int .i64 1, .int .i64 2] 3)
  rw [Addr.add_lit]
  rcases this with rfl | rfl <;> (simp only [World.cell?, Nat.zero_add, hn]; rfl)

theorem lives_a1 (w1 : World) (p : Value) (h : LineAt (w1.alloc (.cells #[.int .i64 0, .int .i64 1, .int .i64 2] 3)) p tl1) :
    Calls Try.prog 26 #[p, .slice (some ⟨w1.heap.size, 0, none⟩) 3 3, .int .i64 0, .int .u64 9] (w1.alloc (.cells #[.int .i64 0, .int .i64 1, .int .i64 2] 3)) fun e w' => e = .returned (.int .u64 4) ∧ Below (w1.alloc (.cells #[.int .i64 0, .int .i64 1, .int .i64 2] 3)).heap.size (w1.alloc (.cells #[.int .i64 0, .int .i64 1, .int .i64 2] 3)) w' :=
  (agreed_ok _ p tl1 h _ 3 [0, 1, 2] (three_C w1) (by simp) (by decide) 0 9).mono fun e w' he => by
    obtain ⟨v, he, hq, hb⟩ := he
    rw [tl1_q hq] at he
    exact ⟨he, hb⟩
theorem lives_a2 (w1 : World) (p : Value) (h : LineAt (w1.alloc (.cells #[.int .i64 0, .int .i64 1, .int .i64 2] 3)) p tl2) :
    Calls Try.prog 26 #[p, .slice (some ⟨w1.heap.size, 0, none⟩) 3 3, .int .i64 0, .int .u64 9] (w1.alloc (.cells #[.int .i64 0, .int .i64 1, .int .i64 2] 3)) fun e w' => e = .returned (.int .u64 7) ∧ Below (w1.alloc (.cells #[.int .i64 0, .int .i64 1, .int .i64 2] 3)).heap.size (w1.alloc (.cells #[.int .i64 0, .int .i64 1, .int .i64 2] 3)) w' :=
  (agreed_ok _ p tl2 h _ 3 [0, 1, 2] (three_C w1) (by simp) (by decide) 0 9).mono fun e w' he => by
    obtain ⟨v, he, hq, hb⟩ := he
    rw [tl2_q hq] at he
    exact ⟨he, hb⟩

set_option maxRecDepth 100000 in
theorem glives_true (w : World) : Calls Try.prog 23 #[] w fun e w' => e = .returned (.bool true) ∧ Below w.heap.size w w' := by
  have HA := Lib.hid (tnew_ok _ _ 2 [1, 2] (two_C w) (by simp) (by simp) 5 (by decide) (by decide))
  have hf := tl_facts
  have HT1 := fun w1 B b bm bl h => Lib.hid (Took_ok w1 B b bm bl tl0 h 1 4 (by decide) (by decide))
  have HT2 := fun w1 B b bm bl h => Lib.hid (Took_ok w1 B b bm bl tl1 h 2 7 (by decide) (by decide))
  rw [hf.1] at HT1
  rw [hf.2] at HT2
  have HQ1 := fun w1 p h => Lib.hid (lives_a1 w1 p h)
  have HQ2 := fun w1 p h => Lib.hid (lives_a2 w1 p h)
  clear hf
  go_enter Try.func23, Try.ntmps23
  go_wp2_with (first
    | (go_at_call 24; refine HA.out.mono ?_; rintro e w1 ⟨b, bm, bl, rfl, HP, hb⟩)
    | (go_at_call 35; (with_reducible refine (HT1 _ _ _ _ _ HP).out.mono ?_); rintro e w2 ⟨rfl, bl2, HP2, hs2⟩)
    | (go_at_call 26; (with_reducible refine (HQ1 _ _ (HP2.lines.below (alloc_below _ _))).out.mono ?_); rintro e w3 ⟨rfl, hb3⟩; have HP3 := (HP2.below (alloc_below _ _)).below hb3)
    | (go_at_call 35; (with_reducible refine (HT2 _ _ _ _ _ HP3).out.mono ?_); rintro e w4 ⟨rfl, bl4, HP4, hs4⟩)
    | (go_at_call 26; (with_reducible refine (HQ2 _ _ (HP4.lines.below (alloc_below _ _))).out.mono ?_); rintro e w5 ⟨rfl, hb5⟩))
  go_ret
  have B1 : Below (w.alloc (.cells #[.int .i64 1, .int .i64 2] 3)).heap.size (w.alloc (.cells #[.int .i64 1, .int .i64 2] 3)) w2 := hs2.bel HP hb
  have B3 := (B1.alloc B1.size _).trans (hb3.mono (by have := B1.size; simp at this ⊢; omega))
  have B4 := hs4.bel HP3 B3
  have B5 := (B4.alloc B4.size _).trans (hb5.mono (by have := B4.size; simp at this ⊢; omega))
  exact ⟨rfl, (alloc_below _ _).trans (B5.mono (by simp))⟩
theorem RT_zero : RT Z60 (fun _ => none) := by
  refine ⟨by kernel_rfl, by kernel_rfl, ?_, ?_, ?_, ?_, ?_, (fun k h => by cases h)⟩ <;>
    (intro k hk; match k, hk with | 0, _ => rfl | 1, _ => rfl | 2, _ => rfl | 3, _ => rfl | 4, _ => rfl | 5, _ => rfl | 6, _ => rfl)
theorem TOk_none : TOk (fun _ => none) := ⟨(fun k x h => by cases h), (fun k x h => by cases h)⟩

/-- What holds at the head of each round. -/
structure Inv (W : World) (b bm : Nat) (bl : Int → Nat) (t : Tb) (wr : World) : Prop where
  at_ : TAt wr W.heap.size b bm bl t
  bel : Below W.heap.size W wr
theorem Inv.below {W wr w' : World} {b bm : Nat} {bl : Int → Nat} {t : Tb} (h : Inv W b bm bl t wr) (hb : Below wr.heap.size wr w') : Inv W b bm bl t w' := ⟨h.at_.below hb, h.bel.trans (hb.mono h.bel.size)⟩
theorem Inv.step {W wr w' : World} {b bm : Nat} {bl bl' : Int → Nat} {t t' : Tb} (h : Inv W b bm bl t wr) (hT : TAt w' W.heap.size b bm bl' t') (hS : Step bm bl t bl' t' wr w') : Inv W b bm bl' t' w' := ⟨hT, hS.bel h.at_ h.bel⟩
theorem cl_later {w W wr : World} {b bm : Nat} {bl : Int → Nat} {t : Tb} {x : Cl} {A : Option Addr} {c : Nat} (hI : ClIn w x A c) (hW : Below w.heap.size w W) (h : Inv W b bm bl t wr) : ∀ w1, Below W.heap.size wr w1 → ClIn w1 x A c :=
  fun w1 hb => hI.below (hW.trans ((h.bel.trans hb).mono hW.size))

end Go.Proofs.Ytibdjmmhdggpfaa
