/-
  What SessionOnce keeps: the table; what was done; what was done last.
-/
import Derived.Test.YtnffdpilaojgpaaArgs
import Derived.WideKeyPair
import Derived.DeepKeys4
namespace Go.Proofs.Ytnffdpilaojgpaa
set_option linter.unusedVariables false
set_option linter.unusedSimpArgs false
open Go.WideMaps Go.WideElems Go.RowKit Go.Maps Go.Proofs.YtnffdpilaojgpaaW.PrintWords Go.Proofs.YtnffdpilaojgpaaW.PrintMore Go.Proofs.Ytnffdpilaojgpaa.PSessionOnce Go.Proofs.Ytnffdpilaojgpaa.fmap

theorem laid : laidOutB Try.prog = true := by kernel_rfl
theorem row38 : (38 : TypeId) < Try.prog.types.size := of_decide_eq_true (by kernel_rfl)
theorem cells38 : Try.prog.cellsOf 38 = 2 := by kernel_rfl
theorem arr38 : ArrKey Try.prog 38 29 2 := ⟨Try.underlying38, by kernel_rfl, cells29, cells38⟩
theorem law38 : Keyed Try.prog 38 := Keyed.of_law (deep_law_laid laid (m := 2) (by omega) row38 (by kernel_rfl) (by rw [Try.underlying38]))
theorem size_succ : ∃ m, Try.prog.types.size = m + 1 := ⟨Try.prog.types.size - 1, by have : 38 < Try.prog.types.size := row38; omega⟩
/-- The key of a client and a request. -/
abbrev pk (c q : Int) : Lit := .string (keyBytes [.int .u64 c, .int .u64 q])
theorem key38 {c q : Int} (hc : (Lit.int .u64 c).wf = true) (hq : (Lit.int .u64 q).wf = true) : keyOf Try.prog 38 (.agg #[.int .u64 c, .int .u64 q]) = some (pk c q) := keyOf_pair arr38 Try.underlying29 size_succ hc hq
theorem pk_inj {c q c' q' : Int} (hc : (Lit.int .u64 c).wf = true) (hq : (Lit.int .u64 q).wf = true) (hc' : (Lit.int .u64 c').wf = true) (hq' : (Lit.int .u64 q').wf = true) (h : pk c q = pk c' q') : c = c' ∧ q = q' := by
  have h1 := key38 hc hq
  rw [h] at h1
  have := law38.inj h1 (key38 hc' hq')
  simpa using this
theorem zero4 (w : World) : (zeroValue 4).run Try.prog w = .ok (.bool false) w := by kernel_rfl
/-- A call's value. -/
abbrev ov (x : S37) (A : Option Addr) (c : Nat) : Value := .agg #[.int .i64 x.f0, .int .u64 x.f1, .int .u64 x.f2, .int .i64 x.f3.f0, .int .i64 x.f3.f1, .int .u64 x.f3.f2.f0, .int .i64 x.f3.f2.f1, .int .i64 x.f3.f2.f2, .int .i64 x.f3.f2.f3, .int .u64 x.f3.f2.f4, .int .i64 x.f3.f2.f5, .int .i64 x.f3.f2.f6, .int .i64 x.f3.f2.f7, .int .i64 x.f3.f2.f8, .slice A x.f3.f3.length c, .int .u64 x.f3.f4, .int .i64 x.f3.f5]
theorem zero37 (w : World) : (zeroValue 37).run Try.prog w = .ok (ov z37 none 0) w := by kernel_rfl
theorem field37_2 (x : S37) (A : Option Addr) (c : Nat) (w : World) : (Instr.field 37 (ov x A c) 2).run Try.prog w = .ok (.int .u64 x.f2) w := by kernel_rfl
theorem field37_3 (x : S37) (A : Option Addr) (c : Nat) (w : World) : (Instr.field 37 (ov x A c) 3).run Try.prog w = .ok (rv x.f3 A c) w := by kernel_rfl

/-- What the table has of a client is what was done last of it. -/
def Agrees (w : World) (f g : Lit → Option Value) : Prop :=
  ∀ c v, f (.int .u64 c) = some v → ∃ (x : S37) (A A2 : Option Addr) (cp cp2 : Nat), v = av x.f2 x.f3 A cp ∧ UC w A x.f3.f3 ∧ x.f3.f3.length ≤ cp ∧ g (.int .u64 c) = some (ov x A2 cp2) ∧ UC w A2 x.f3.f3 ∧ x.f3.f3.length ≤ cp2 ∧ x.f3.f3.length ≤ 200

/-- At the head of a round. -/
structure Once (w : World) (b tm dm lm n : Nat) (f d g : Lit → Option Value) (wr : World) : Prop where
  T : Tab wr b tm n f
  D : FM wr Try.prog 38 dm n d
  L : FM wr Try.prog 29 lm n g
  bel : Below w.heap.size w wr
  ht : w.heap.size ≤ tm
  hd : w.heap.size ≤ dm
  hl : w.heap.size ≤ lm
  td : tm ≠ dm
  tl : tm ≠ lm
  dl : dm ≠ lm
  J : Agrees wr f g
  E : ∀ kl, d kl = none ∨ d kl = some (.bool true)
  F : ∀ c q, (Lit.int .u64 c).wf = true → (Lit.int .u64 q).wf = true → d (pk c q) = some (.bool true) → ∃ q' x A cp, f (.int .u64 c) = some (av q' x A cp) ∧ q ≤ q'
section
variable {w wr w' : World} {b tm dm lm n : Nat} {f d g : Lit → Option Value}
theorem Agrees.below (h : Agrees w f g) (hb : Below w.heap.size w w') : Agrees w' f g := fun c v hv => by
  obtain ⟨x, A, A2, cp, cp2, e, hU, hc, hg, hU2, hc2, hl⟩ := h c v hv
  exact ⟨x, A, A2, cp, cp2, e, hU.below hb, hc, hg, hU2.below hb, hc2, hl⟩
theorem Agrees.store (h : Agrees w f g) {k : TypeId} {bm m : Nat} {fm : Lit → Option Value} (hm : FM w Try.prog k bm m fm) (hg : w.grownBy w' (some bm)) : Agrees w' f g := fun c v hv => by
  obtain ⟨x, A, A2, cp, cp2, e, hU, hc, hg', hU2, hc2, hl⟩ := h c v hv
  exact ⟨x, A, A2, cp, cp2, e, hU.store hm hg, hc, hg', hU2.store hm hg, hc2, hl⟩
theorem Once.below (h : Once w b tm dm lm n f d g wr) (hb : Below wr.heap.size wr w') : Once w b tm dm lm n f d g w' :=
  ⟨h.T.below hb, h.D.kept (nob_iff.1 hb) (by simp), h.L.kept (nob_iff.1 hb) (by simp), h.bel.trans (hb.mono h.bel.size), h.ht, h.hd, h.hl, h.td, h.tl, h.dl, h.J.below hb, h.E, h.F⟩
theorem Once.mono (h : Once w b tm dm lm n f d g wr) {m : Nat} (hm : n ≤ m) : Once w b tm dm lm m f d g wr :=
  ⟨⟨h.T.blk, h.T.map.mono hm⟩, h.D.mono hm, h.L.mono hm, h.bel, h.ht, h.hd, h.hl, h.td, h.tl, h.dl, h.J, h.E, h.F⟩
/-- All three stores. -/
theorem Once.stored {w1 w2 w3 : World} (h : Once w b tm dm lm n f d g wr) {x : S37} {A A2 : Option Addr} {cp cp2 : Nat} (wc : (Lit.int .u64 x.f1).wf = true) (wq : (Lit.int .u64 x.f2).wf = true)
    (h1 : FM w1 Try.prog 29 tm (n + 1) (fput f (.int .u64 x.f1) (some (av x.f2 x.f3 A cp)))) (g1 : wr.grownBy w1 (some tm))
    (h2 : FM w2 Try.prog 38 dm (n + 1) (fput d (pk x.f1 x.f2) (some (.bool true)))) (g2 : w1.grownBy w2 (some dm))
    (h3 : FM w3 Try.prog 29 lm (n + 1) (fput g (.int .u64 x.f1) (some (ov x A2 cp2)))) (g3 : w2.grownBy w3 (some lm))
    (hU : UC w1 A x.f3.f3) (hcp : x.f3.f3.length ≤ cp) (hU2 : UC w1 A2 x.f3.f3) (hcp2 : x.f3.f3.length ≤ cp2) (hlen : x.f3.f3.length ≤ 200)
    (hold : ∀ q' y B cy, f (.int .u64 x.f1) = some (av q' y B cy) → q' < x.f2) :
    Once w b tm dm lm (n + 1) (fput f (.int .u64 x.f1) (some (av x.f2 x.f3 A cp))) (fput d (pk x.f1 x.f2) (some (.bool true))) (fput g (.int .u64 x.f1) (some (ov x A2 cp2))) w3 := by
  have D1 := h.D.kept g1 (by intro e; exact h.td (by cases e; rfl))
  have L1 := h.L.kept g1 (by intro e; exact h.tl (by cases e; rfl))
  have L2 := L1.kept g2 (by intro e; exact h.dl (by cases e; rfl))
  have T1 : Tab w1 b tm (n + 1) _ := h.T.stored h1 g1
  have kb : ∀ {w w' : World} {k : TypeId} {bm m : Nat} {fm : Lit → Option Value}, w.heap[b]? = some (.cells #[.map (some tm)] 66 (0, 0)) → FM w Try.prog k bm m fm → w.grownBy w' (some bm) → w'.heap[b]? = some (.cells #[.map (some tm)] 66 (0, 0)) := fun {w w' k bm m fm} hb hm hg => blk_grown hb hg (by
    intro e
    cases e
    obtain ⟨es, clock, h'⟩ := hm.block
    rw [hb] at h'
    cases h')
  have b1 := h.bel.grown g1 h.bel.size (by intro k e; cases e; exact h.ht)
  have b2 := b1.grown g2 b1.size (by intro k e; cases e; exact h.hd)
  have b3 := b2.grown g3 b2.size (by intro k e; cases e; exact h.hl)
  refine ⟨⟨kb (kb T1.blk D1 g2) L2 g3, (h1.kept g2 (by intro e; exact h.td (by cases e; rfl))).kept g3 (by intro e; exact h.tl (by cases e; rfl))⟩, h2.kept g3 (by intro e; exact h.dl (by cases e; rfl)), h3, b3, h.ht, h.hd, h.hl, h.td, h.tl, h.dl, ?_, ?_, ?_⟩
  · have J3 := ((h.J.store h.T.map g1).store D1 g2).store L2 g3
    intro c v hv
    by_cases e : c = x.f1
    · subst e
      rw [fput_same] at hv
      cases hv
      exact ⟨x, A, A2, cp, cp2, rfl, (hU.store D1 g2).store L2 g3, hcp, fput_same _ _ _, (hU2.store D1 g2).store L2 g3, hcp2, hlen⟩
    · rw [fput_other _ _ (by intro e'; exact e (by cases e'; rfl))] at hv
      obtain ⟨y, B, B2, cy, cy2, e1, u1, l1, e2, u2, l2, l3⟩ := J3 c v hv
      exact ⟨y, B, B2, cy, cy2, e1, u1, l1, by rw [fput_other _ _ (by intro e'; exact e (by cases e'; rfl))]; exact e2, u2, l2, l3⟩
  · intro kl
    by_cases e : kl = pk x.f1 x.f2
    · subst e
      exact .inr (fput_same _ _ _)
    · rw [fput_other _ _ e]
      exact h.E kl
  · intro c q hc hq hd
    by_cases e : pk c q = pk x.f1 x.f2
    · obtain ⟨rfl, rfl⟩ := pk_inj hc hq wc wq e
      exact ⟨_, _, _, _, fput_same _ _ _, Int.le_refl _⟩
    · rw [fput_other _ _ e] at hd
      obtain ⟨q', y, B, cy, e1, hle⟩ := h.F c q hc hq hd
      by_cases ec : c = x.f1
      · subst ec
        have := hold q' y B cy e1
        exact ⟨_, _, _, _, fput_same _ _ _, by omega⟩
      · exact ⟨q', y, B, cy, by rw [fput_other _ _ (by intro e'; exact ec (by cases e'; rfl))]; exact e1, hle⟩
end
theorem once_start {w w1 : World} (hb : Below w.heap.size w w1) :
    Once w (w1.heap.size + 1) w1.heap.size (w1.heap.size + 1 + 1) (w1.heap.size + 1 + 1 + 1) 0 (fun _ => none) (fun _ => none) (fun _ => none)
      ((((w1.alloc (.map #[] 0)).alloc (.cells #[.map (some w1.heap.size)] 66)).alloc (.map #[] 0)).alloc (.map #[] 0)) := by
  have hs := hb.size
  have B2 := empty_below w1
  have B4 := (B2.alloc B2.size (.map #[] 0)).alloc (by simp; omega) (.map #[] 0)
  refine ⟨((tab_empty w1).below (alloc_below _ _)).below (alloc_below _ _), ?_, ?_, hb.trans (B4.mono hs), hs, by omega, by omega, by omega, by omega, by omega, (fun c v hv => by cases hv), (fun _ => .inl rfl), (fun c q _ _ hd => by cases hd)⟩
  · have := FM.made ((w1.alloc (.map #[] 0)).alloc (.cells #[.map (some w1.heap.size)] 66)) Try.prog 38
    simp only [World.size_alloc] at this
    exact this.alloc _
  · have := FM.made (((w1.alloc (.map #[] 0)).alloc (.cells #[.map (some w1.heap.size)] 66)).alloc (.map #[] 0)) Try.prog 29
    simp only [World.size_alloc] at this
    exact this
end Go.Proofs.Ytnffdpilaojgpaa
