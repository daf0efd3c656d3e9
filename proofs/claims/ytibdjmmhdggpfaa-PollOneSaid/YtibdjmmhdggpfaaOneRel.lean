/-
  What PollOne keeps: two polls, and two rows of seven bools.
-/
import Derived.Test.YtibdjmmhdggpfaaOnePure
import Derived.Test.YtibdjmmhdggpfaaPlaysRel
namespace Go.Proofs.Ytibdjmmhdggpfaa
set_option linter.unusedVariables false
set_option linter.unusedSimpArgs false
open Go.ChangeShapes Go.WideShapes Go.ChangeAt Go.RowKit Go.Maps Go.Proofs.YtibdjmmhdggpfaaW.PrintWords Go.Proofs.YtibdjmmhdggpfaaW.PrintMore Go.Proofs.Ytibdjmmhdggpfaa.PPollPlays Go.Proofs.Ytibdjmmhdggpfaa.pure Go.Proofs.Ytibdjmmhdggpfaa.fmap

/-- A slice of bools that came in. -/
def IsBools (w : World) (a : Option Addr) (len : Nat) : Prop :=
  len ≤ 9223372036854775807 ∧ ∀ i, i < len → ∃ b o v, a = some ⟨b, o, none⟩ ∧ w.cell? ⟨b, o + i, none⟩ = some (.bool v)
theorem isBools {H : Type} {enc : TypeId × Value → H} {w : World} {base : Nat} {spare : Nat → Bool} {held : Bool} {fuel : Nat} {a : Option Addr} {len cap : Nat} {x : DataW H × List MemPlace}
    (h : DataW.trod enc Try.prog w base spare held fuel 41 [.slice a len cap] = some x) : IsBools w a len := by
  obtain ⟨hlc, hcm, _, hel⟩ := opens.slice_elems Try.underlying41 (by rw [cells4]; omega) h
  refine ⟨by unfold maxLen at hcm; omega, fun i hi => ?_⟩
  obtain ⟨b, o, rfl, cs, n, y, hl, hc, ht⟩ := hel i hi
  rw [cells4] at hc hl
  obtain ⟨v, hv, hcell⟩ := hc 0 (by omega)
  obtain ⟨u, rfl⟩ : ∃ u, cs = [u] := by
    match cs, hl with
    | [u], _ => exact ⟨u, rfl⟩
  obtain ⟨z, hz, _⟩ := DataW.trod_bool Try.underlying4 ht
  cases hz
  cases hv
  exact ⟨b, o, z, rfl, by simpa using hcell⟩

/-! ### A row of seven bools -/
def seven (f : Int → Bool) : Array Value := #[.bool (f 0), .bool (f 1), .bool (f 2), .bool (f 3), .bool (f 4), .bool (f 5), .bool (f 6)]
def upd (f : Int → Bool) (k : Int) (v : Bool) : Int → Bool := fun x => if x = k then v else f x
def Arr (w : World) (g : Nat) (f : Int → Bool) : Prop := w.heap[g]? = some (.cells (seven f) 42 (0, 0))
section
variable {w w' : World} {g : Nat} {f : Int → Bool}
theorem Arr.cell (h : Arr w g f) (k : Nat) (hk : k < 7) : w.cell? ⟨g, k, none⟩ = some (.bool (f k)) := by
  rw [blk_cell h]
  have : k = 0 ∨ k = 1 ∨ k = 2 ∨ k = 3 ∨ k = 4 ∨ k = 5 ∨ k = 6 := by omega
  rcases this with rfl | rfl | rfl | rfl | rfl | rfl | rfl <;> rfl
theorem Arr.free (h : Arr w g f) (i : Nat) : w.frozen? ⟨g, i, none⟩ = false := blk_frozen h i
theorem Arr.below (h : Arr w g f) (hb : Below w.heap.size w w') : Arr w' g f := blk_below h hb
theorem Arr.kept {row : Option Nat} (h : Arr w g f) (hg : w.grownBy w' row) (hne : row ≠ some g) : Arr w' g f := blk_grown h hg (fun e => hne e.symm)
theorem Arr.put (h : Arr w g f) (k : Nat) (hk : k < 7) (v : Bool) : Arr (w.setCell ⟨g, k, none⟩ (.bool v)) g (upd f k v) := by
  refine blk_put h k _ ?_
  have : k = 0 ∨ k = 1 ∨ k = 2 ∨ k = 3 ∨ k = 4 ∨ k = 5 ∨ k = 6 := by omega
  rcases this with rfl | rfl | rfl | rfl | rfl | rfl | rfl <;> simp [seven, upd]
theorem Arr.map_ne (h : Arr w g f) {bm n : Nat} {m : Lit → Option Value} (hm : FM w Try.prog 3 bm n m) : (some bm : Option Nat) ≠ some g := by
  intro e
  obtain ⟨es, clock, hb⟩ := hm.block
  unfold Arr at h
  cases e
  rw [hb] at h
  cases h
theorem IntC.arr_ne {A : Option Addr} {l : List Int} (h : IntC w A l) (h0 : l ≠ []) (ht : Arr w g f) : ∀ ad, A = some ad → some g ≠ some ad.block := by
  intro ad e e'
  cases e'
  obtain ⟨ad', e2, hc⟩ := (IntC_iff.1 h).2 (List.length_pos_iff.2 h0)
  rw [e] at e2
  cases e2
  have h1 := hc 0 (List.length_pos_iff.2 h0)
  have hb : (ad.add 0).block = ad.block := by unfold Addr.add; split <;> rfl
  unfold Arr at ht
  unfold World.cell? at h1
  rw [hb, ht] at h1
  simp only at h1
  split at h1
  · cases h1
  · generalize (ad.add 0).off = k at h1
    unfold seven at h1
    match k, h1 with
    | 0, h1 => simp at h1
    | 1, h1 => simp at h1
    | 2, h1 => simp at h1
    | 3, h1 => simp at h1
    | 4, h1 => simp at h1
    | 5, h1 => simp at h1
    | 6, h1 => simp at h1
    | n + 7, h1 => simp at h1
theorem set_grown (w : World) (g i : Nat) (v : Value) : w.grownBy (w.setCell ⟨g, i, none⟩ v) (some g) :=
  ⟨rfl, rfl, rfl, by simp, fun k hk hne => Below.heap_setCell w ⟨g, i, none⟩ v k (fun e => hne (by rw [e]))⟩
theorem PAt.arr {b bm : Nat} {A : Option Addr} {c n : Nat} {m : List Int} {said : Int → Int} (h : PAt w b bm A c m said n) (ht : Arr w g f) (hg : w.grownBy w' (some g)) : PAt w' b bm A c m said n := by
  refine h.kept hg ?_ (fun e => ht.map_ne h.map e.symm) (h.memC.arr_ne (snd_ne h.sndT) ht)
  rintro e
  cases e
  have := h.blk
  unfold Arr at ht
  rw [ht] at this
  cases this
theorem PAt.other {b bm : Nat} {A : Option Addr} {c n n' : Nat} {m : List Int} {said : Int → Int} {qm : Nat} {fq : Lit → Option Value} (h : PAt w b bm A c m said n) (hm : FM w Try.prog 3 qm n' fq) (hne : bm ≠ qm) (hg : w.grownBy w' (some qm)) : PAt w' b bm A c m said n := by
  refine h.kept hg ?_ (fun e => hne (by cases e; rfl)) (h.memC.map_ne (snd_ne h.sndT) hm)
  rintro e
  cases e
  obtain ⟨es, clock, hb⟩ := hm.block
  rw [h.blk] at hb
  cases hb
end

/-- Two polls in which nobody says yes to both. -/
structure One (w : World) (p pm : Nat) (Ap : Option Addr) (cp : Nat) (a : List Int) (q qm : Nat) (Aq : Option Addr) (cq : Nat) (b : List Int) (tp tq : Nat) (sp sq : Int → Int) (fp fq : Int → Bool) (wr : World) : Prop where
  P : Rel w p pm Ap cp a sp wr
  Q : Rel w q qm Aq cq b sq wr
  tP : Arr wr tp fp
  tQ : Arr wr tq fq
  hp : w.heap.size ≤ tp
  hq : w.heap.size ≤ tq
  ne : pm ≠ qm
  ne' : tp ≠ tq
  iP : ∀ x, sp x = 1 → fp x = true
  iQ : ∀ x, sq x = 1 → fq x = true
  dis : ∀ x, ¬ (fp x = true ∧ fq x = true)
section
variable {w wr w' : World} {p pm : Nat} {Ap : Option Addr} {cp : Nat} {a : List Int} {q qm : Nat} {Aq : Option Addr} {cq : Nat} {b : List Int} {tp tq : Nat} {sp sq : Int → Int} {fp fq : Int → Bool}
theorem One.swap (h : One w p pm Ap cp a q qm Aq cq b tp tq sp sq fp fq wr) : One w q qm Aq cq b p pm Ap cp a tq tp sq sp fq fp wr :=
  ⟨h.Q, h.P, h.tQ, h.tP, h.hq, h.hp, h.ne.symm, h.ne'.symm, h.iQ, h.iP, fun x e => h.dis x ⟨e.2, e.1⟩⟩
theorem One.below (h : One w p pm Ap cp a q qm Aq cq b tp tq sp sq fp fq wr) (hb : Below wr.heap.size wr w') : One w p pm Ap cp a q qm Aq cq b tp tq sp sq fp fq w' :=
  ⟨h.P.below hb, h.Q.below hb, h.tP.below hb, h.tQ.below hb, h.hp, h.hq, h.ne, h.ne', h.iP, h.iQ, h.dis⟩
theorem One.drew (h : One w p pm Ap cp a q qm Aq cq b tp tq sp sq fp fq wr) : One w p pm Ap cp a q qm Aq cq b tp tq sp sq fp fq wr.drew := h.below ⟨rfl, rfl, rfl, Nat.le_refl _, fun _ _ => rfl⟩
theorem One.put (h : One w p pm Ap cp a q qm Aq cq b tp tq sp sq fp fq wr) (k : Nat) (hk : k < 7) (v : Bool) (h1 : fp k = true → v = true) (h2 : v = true → fq k = false) :
    One w p pm Ap cp a q qm Aq cq b tp tq sp sq (upd fp k v) fq (wr.setCell ⟨tp, k, none⟩ (.bool v)) where
  P := ⟨h.P.at_.arr h.tP (set_grown _ _ _ _), h.P.bel.grown (set_grown _ _ _ _) h.P.bel.size (by intro j e; cases e; exact h.hp), h.P.hbm⟩
  Q := ⟨h.Q.at_.arr h.tP (set_grown _ _ _ _), h.Q.bel.grown (set_grown _ _ _ _) h.Q.bel.size (by intro j e; cases e; exact h.hp), h.Q.hbm⟩
  tP := h.tP.put k hk v
  tQ := h.tQ.kept (set_grown _ _ _ _) (fun e => h.ne' (by cases e; rfl))
  hp := h.hp
  hq := h.hq
  ne := h.ne
  ne' := h.ne'
  iP := fun x e => by
    unfold upd
    split
    · rename_i hx
      subst hx
      exact h1 (h.iP _ e)
    · exact h.iP x e
  iQ := h.iQ
  dis := fun x ⟨e1, e2⟩ => by
    unfold upd at e1
    split at e1
    · rename_i hx
      subst hx
      rw [h2 e1] at e2
      cases e2
    · exact h.dis x ⟨e1, e2⟩
theorem One.noted (h : One w p pm Ap cp a q qm Aq cq b tp tq sp sq fp fq wr) (k : Int) (ok : Bool) (h1 : ok = true → fp k = true) (hP : PAt w' p pm Ap cp a (say a sp k ok) (cd (say a sp k ok))) (hg : wr.grownBy w' (some pm)) :
    One w p pm Ap cp a q qm Aq cq b tp tq (say a sp k ok) sq fp fq w' where
  P := h.P.noted hP hg
  Q := ⟨h.Q.at_.other h.P.at_.map h.ne.symm hg, h.Q.bel.grown hg h.Q.bel.size (by intro j e; cases e; exact h.P.hbm), h.Q.hbm⟩
  tP := h.tP.kept hg (h.tP.map_ne h.P.at_.map)
  tQ := h.tQ.kept hg (h.tQ.map_ne h.P.at_.map)
  hp := h.hp
  hq := h.hq
  ne := h.ne
  ne' := h.ne'
  iP := fun x e => by
    unfold say at e
    split at e
    · unfold note at e
      split at e
      · rename_i hx
        subst hx
        cases ok with
        | true => exact h1 rfl
        | false => simp at e
      · exact h.iP x e
    · exact h.iP x e
  iQ := h.iQ
  dis := h.dis
theorem One.end (h : One w p pm Ap cp a q qm Aq cq b tp tq sp sq fp fq wr) (hn : near a b = true) : ¬ (state a sp = 2 ∧ state b sq = 2) :=
  won_one hn h.P.at_.ok h.Q.at_.ok (fun x ⟨e1, e2⟩ => h.dis x ⟨h.iP x e1, h.iQ x e2⟩)
end
theorem One.start {w w3 : World} {p pm : Nat} {Ap : Option Addr} {cp : Nat} {a : List Int} {q qm : Nat} {Aq : Option Addr} {cq : Nat} {b : List Int} (hP : PAt w3 p pm Ap cp a (fun _ => 0) 0) (hQ : PAt w3 q qm Aq cq b (fun _ => 0) 0) (hb : Below w.heap.size w w3) (hpm : w.heap.size ≤ pm) (hqm : w.heap.size ≤ qm) (hne : pm ≠ qm) :
    One w p pm Ap cp a q qm Aq cq b w3.heap.size (w3.heap.size + 1) (fun _ => 0) (fun _ => 0) (fun _ => false) (fun _ => false)
      ((w3.alloc (.cells #[.bool false, .bool false, .bool false, .bool false, .bool false, .bool false, .bool false] 42)).alloc (.cells #[.bool false, .bool false, .bool false, .bool false, .bool false, .bool false, .bool false] 42)) := by
  have hB := below_alloc (below_alloc (Below.refl w3.heap.size w3) (.cells #[.bool false, .bool false, .bool false, .bool false, .bool false, .bool false, .bool false] 42)) (.cells #[.bool false, .bool false, .bool false, .bool false, .bool false, .bool false, .bool false] 42)
  have hs := hb.size
  refine ⟨⟨(hP.any_kept (w' := w3) (Nat.zero_le _)).below hB, hb.trans (hB.mono hs), hpm⟩, ⟨(hQ.any_kept (w' := w3) (Nat.zero_le _)).below hB, hb.trans (hB.mono hs), hqm⟩, ?_, ?_, hs, by omega, hne, by omega, by simp, by simp, by simp⟩
  · exact blk_alloc (heap_alloc_new w3 _) _
  · have := heap_alloc_new (w3.alloc (.cells #[.bool false, .bool false, .bool false, .bool false, .bool false, .bool false, .bool false] 42)) (.cells #[.bool false, .bool false, .bool false, .bool false, .bool false, .bool false, .bool false] 42)
    simp only [World.size_alloc] at this
    exact this
end Go.Proofs.Ytibdjmmhdggpfaa
