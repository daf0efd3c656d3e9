/-
  What holds in each round of ProgressRises.
-/
import Derived.Test.YtibdjmmhdggpfaaGLives
namespace Go.Proofs.Ytibdjmmhdggpfaa
set_option linter.unusedVariables false
set_option linter.unusedSimpArgs false
open Go.RowKit Go.Maps Go.Proofs.YtibdjmmhdggpfaaW.PrintWords Go.Proofs.YtibdjmmhdggpfaaW.PrintMore Go.Proofs.Ytibdjmmhdggpfaa.PPollPlays Go.Proofs.Ytibdjmmhdggpfaa.pure Go.Proofs.Ytibdjmmhdggpfaa.fmap Go.Proofs.Ytibdjmmhdggpfaa.rows

/-- No call lowers a line that stays. -/
theorem stepT_up (t : Tb) (x : Cl) (n : Int) (y0 y : Ln) (h0 : t n = some y0) (h1 : stepT t x n = some y) : y0.m ≤ y.m ∧ y0.r ≤ y.r := by
  have put : ∀ (k : Int) (z z' : Ln), t k = some z → z.m ≤ z'.m → z.r ≤ z'.r → tput t k z' n = some y → y0.m ≤ y.m ∧ y0.r ≤ y.r := by
    intro k z z' hz hm hr hp
    by_cases e : n = k
    · subst e
      rw [tput_same] at hp
      rw [h0] at hz
      cases hz
      cases hp
      exact ⟨hm, hr⟩
    · rw [tput_other t z' e, h0] at hp
      cases hp
      exact ⟨Int.le_refl _, Int.le_refl _⟩
  have same : t n = some y → y0.m ≤ y.m ∧ y0.r ≤ y.r := by
    intro hp
    rw [h0] at hp
    cases hp
    exact ⟨Int.le_refl _, Int.le_refl _⟩
  unfold stepT at h1
  split at h1
  · unfold refused at h1
    rcases hz : t x.nd with _ | z <;> rw [hz] at h1 <;> simp only at h1
    · exact same h1
    · exact put _ _ (refx z x.n) hz (Int.le_refl _) (Int.le_refl _) h1
  split at h1
  · unfold heard at h1
    rcases hz : t x.nd with _ | z <;> rw [hz] at h1 <;> simp only at h1
    · exact same h1
    · exact put _ _ (heardx z x.n) hz (Int.le_refl _) (by unfold heardx; simp only; split <;> omega) h1
  split at h1
  · unfold sett at h1
    split at h1
    · unfold news at h1
      split at h1
      · rw [h0] at h1
        simp at h1
        subst h1
        exact ⟨Int.le_refl _, Int.le_refl _⟩
      · cases h1
    · exact same h1
  split at h1
  · unfold calm at h1
    rw [h0] at h1
    simp at h1
    subst h1
    exact ⟨Int.le_refl _, Int.le_refl _⟩
  · unfold took at h1
    rcases hz : t x.nd with _ | z <;> rw [hz] at h1 <;> simp only at h1
    · exact same h1
    · split at h1
      · exact put _ _ (tookx z x.n) hz (by unfold tookx; simp only; split <;> omega) (Int.le_refl _) h1
      · exact same h1

abbrev Z67 : Array Value := #[.int .u64 0, .int .u64 0, .int .u64 0, .bool false, .int .u64 0, .int .u64 0, .int .u64 0, .bool false, .int .u64 0, .int .u64 0, .int .u64 0, .bool false, .int .u64 0, .int .u64 0, .int .u64 0, .bool false, .int .u64 0, .int .u64 0, .int .u64 0, .bool false, .int .u64 0, .int .u64 0, .int .u64 0, .bool false, .int .u64 0, .int .u64 0, .int .u64 0, .bool false]
theorem zero67 (w : World) : (zeroValue 67).run Try.prog w = .ok (.agg Z67) w := by kernel_rfl
abbrev Z42 : Array Value := #[.bool false, .bool false, .bool false, .bool false, .bool false, .bool false, .bool false]
theorem zero42 (w : World) : (zeroValue 42).run Try.prog w = .ok (.agg Z42) w := by kernel_rfl

theorem below_setRow {B : Nat} {W w : World} {g : Nat} (h : Below B W w) (hg : B ≤ g) (cs : Array Value) : Below B W (w.setRow g cs) :=
  ⟨h.os, h.tape, h.output, by simp; exact h.size, fun k hk => (setRow_other _ _ _ _ (by omega)).trans (h.block k hk)⟩
theorem TAt.ne {w : World} {B b bm : Nat} {bl : Int → Nat} {t : Tb} (h : TAt w B b bm bl t) {g : Nat} {cs : Array Value} {ty : TypeId} {fr : Nat × Nat} (hg : w.heap[g]? = some (.cells cs ty fr)) (h1 : ty ≠ 77) (h2 : ty ≠ 66) : g ≠ b ∧ ¬ owns bm bl t g := by
  refine ⟨?_, ?_⟩
  · rintro rfl
    rw [h.blk] at hg
    cases hg
    exact h1 rfl
  · rintro (rfl | ⟨j, hj, rfl⟩)
    · obtain ⟨es, clock, hb⟩ := h.bmap
      rw [hb] at hg
      cases hg
    · obtain ⟨x, hx⟩ := Option.isSome_iff_exists.1 hj
      rw [h.line j x hx] at hg
      cases hg
      exact h2 rfl

/-- The lines that were, up to k. -/
structure Was (w : World) (g h : Nat) (t : Tb) (k : Nat) : Prop where
  a : ∃ cs, w.heap[g]? = some (.cells cs 67 (0, 0)) ∧ cs.size = 28 ∧ ∀ j : Nat, j < k → cs[j * 4]? = some (.int .u64 (lnz t j).m) ∧ cs[j * 4 + 2]? = some (.int .u64 (lnz t j).r)
  b : ∃ ds, w.heap[h]? = some (.cells ds 42 (0, 0)) ∧ ds.size = 7 ∧ ∀ j : Nat, j < k → ds[j]? = some (.bool (t j).isSome)
/-- A round's own blocks. -/
structure Sc (W : World) (b bm : Nat) (bl : Int → Nat) (t : Tb) (o g h : Nat) (x : Cl) (A : Option Addr) (c : Nat) (t0 : Tb) (k : Nat) (w : World) : Prop where
  inv : Inv W b bm bl t w
  op : w.heap[o]? = some (.cells (qc x A c).toArray 55 (0, 0))
  was : Was w g h t0 k
  lg : W.heap.size ≤ g
  lh : W.heap.size ≤ h
section
variable {W w w' : World} {b bm : Nat} {bl bl' : Int → Nat} {t t' : Tb} {o g h : Nat} {x : Cl} {A : Option Addr} {c : Nat} {t0 : Tb} {k : Nat}
theorem Was.of (H : Was w g h t k) (hg : w'.heap[g]? = w.heap[g]?) (hh : w'.heap[h]? = w.heap[h]?) : Was w' g h t k := ⟨by rw [hg]; exact H.a, by rw [hh]; exact H.b⟩
theorem Was.lt (H : Was w g h t k) : g < w.heap.size ∧ h < w.heap.size := by
  obtain ⟨cs, hc, _⟩ := H.a
  obtain ⟨ds, hd, _⟩ := H.b
  exact ⟨blk_lt hc, blk_lt hd⟩
theorem Sc.below (H : Sc W b bm bl t o g h x A c t0 k w) (hb : Below w.heap.size w w') : Sc W b bm bl t o g h x A c t0 k w' :=
  ⟨H.inv.below hb, blk_below H.op hb, H.was.of (hb.block _ H.was.lt.1) (hb.block _ H.was.lt.2), H.lg, H.lh⟩
theorem Sc.step (H : Sc W b bm bl t o g h x A c t0 k w) (hT : TAt w' W.heap.size b bm bl' t') (hS : Step bm bl t bl' t' w w') : Sc W b bm bl' t' o g h x A c t0 k w' := by
  obtain ⟨cs, hc, hcr⟩ := H.was.a
  obtain ⟨ds, hd, hdr⟩ := H.was.b
  exact ⟨H.inv.step hT hS, hS.blk H.op (H.inv.at_.ne H.op (by decide) (by decide)).2,
    ⟨⟨cs, hS.blk hc (H.inv.at_.ne hc (by decide) (by decide)).2, hcr⟩, ⟨ds, hS.blk hd (H.inv.at_.ne hd (by decide) (by decide)).2, hdr⟩⟩, H.lg, H.lh⟩
theorem Sc.put (H : Sc W b bm bl t o g h x A c t k w) {cs ds : Array Value} (hc : w.heap[g]? = some (.cells cs 67 (0, 0))) (hd : w.heap[h]? = some (.cells ds 42 (0, 0))) (hk : k < 7)
    (y : Ln) (hy : lnz t k = y) (z : Bool) (hz : (t k).isSome = z) :
    Sc W b bm bl t o g h x A c t (k + 1) ((w.setRow g (setMid cs (k * 4) [.int .u64 y.m, .int .u64 y.n, .int .u64 y.r, .bool y.a])).setRow h (ds.setIfInBounds k (.bool z))) := by
  subst hy hz
  obtain ⟨cs', hc', hcs, hcr⟩ := H.was.a
  obtain ⟨ds', hd', hds, hdr⟩ := H.was.b
  rw [hc] at hc'
  cases hc'
  rw [hd] at hd'
  cases hd'
  have ngh : g ≠ h := by
    rintro rfl
    rw [hc] at hd
    cases hd
  have nog : g ≠ o := by
    rintro rfl
    rw [H.op] at hc
    cases hc
  have noh : h ≠ o := by
    rintro rfl
    rw [H.op] at hd
    cases hd
  have n1 := H.inv.at_.ne hc (by decide) (by decide)
  have n2 := H.inv.at_.ne hd (by decide) (by decide)
  refine ⟨⟨(H.inv.at_.setRow n1.1 n1.2 _).setRow n2.1 n2.2 _, below_setRow (below_setRow H.inv.bel H.lg _) H.lh _⟩, ?_, ⟨⟨setMid cs (k * 4) [.int .u64 (lnz t k).m, .int .u64 (lnz t k).n, .int .u64 (lnz t k).r, .bool (lnz t k).a], ?_, ?_, ?_⟩, ⟨ds.setIfInBounds k (.bool (t k).isSome), ?_, ?_, ?_⟩⟩, H.lg, H.lh⟩
  · exact (setRow_other _ _ _ _ noh.symm).trans ((setRow_other _ _ _ _ nog.symm).trans H.op)
  · exact (setRow_other _ _ _ _ ngh).trans (setRow_heap _ _ _ _ _ _ hc)
  · rw [size_setMid]; exact hcs
  · intro j hj
    simp only [setMid, Array.getElem?_setIfInBounds, Array.size_setIfInBounds, hcs]
    by_cases e : j = k
    · subst e
      refine ⟨?_, ?_⟩
      · rw [if_neg (by omega), if_neg (by omega), if_neg (by omega), if_pos rfl, if_pos (by omega)]
      · rw [if_neg (by omega), if_pos (by omega), if_pos (by omega)]
    · obtain ⟨q1, q2⟩ := hcr j (by omega)
      refine ⟨?_, ?_⟩
      · rw [if_neg (by omega), if_neg (by omega), if_neg (by omega), if_neg (by omega), q1]
      · rw [if_neg (by omega), if_neg (by omega), if_neg (by omega), if_neg (by omega), q2]
  · exact setRow_heap _ _ _ _ _ _ ((setRow_other _ _ _ _ ngh.symm).trans hd)
  · simp [hds]
  · intro j hj
    simp only [Array.getElem?_setIfInBounds, hds]
    by_cases e : j = k
    · subst e
      rw [if_pos rfl, if_pos (by omega)]
    · rw [if_neg (by omega), hdr j (by omega)]
end
theorem Was.zero (w : World) (t : Tb) : Was ((w.alloc (.cells Z67 67)).alloc (.cells Z42 42)) w.heap.size (w.heap.size + 1) t 0 :=
  ⟨⟨Z67, blk_alloc (heap_alloc_new w _) _, rfl, fun j hj => absurd hj (Nat.not_lt_zero _)⟩, ⟨Z42, by have := heap_alloc_new (w.alloc (.cells Z67 67)) (.cells Z42 42); simpa using this, rfl, fun j hj => absurd hj (Nat.not_lt_zero _)⟩⟩
end Go.Proofs.Ytibdjmmhdggpfaa
