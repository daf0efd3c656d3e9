/-
  What came in and how it lies: slices of uint64, replies, calls. What the table's helpers do: none, Empty, Copy.
-/
import Derived.Test.YtnffdpilaojgpaaOpen
import Derived.Test.YtnffdpilaojgpaaMap
import Derived.Test.YtnffdpilaojgpaaSnd
import Derived.Test.YtnffdpilaojgpaaPSessionOncex5
import Derived.Laws.CopyOwn
import Derived.Deep.OwnRows
import Derived.Laws.Rows
import Derived.Test.YtnffdpilaojgpaaAny
import Derived.WalkKit
import Derived.ProofKit
import Derived.Lib.Hide
import Derived.WalkSpells
namespace Go.Proofs.Ytnffdpilaojgpaa
set_option linter.unusedVariables false
set_option linter.unusedSimpArgs false
open Go.RowKit Go.Maps Go.Proofs.YtnffdpilaojgpaaW.PrintWords Go.Proofs.YtnffdpilaojgpaaW.PrintMore Go.Proofs.Ytnffdpilaojgpaa.PSessionOnce Go.Proofs.Ytnffdpilaojgpaa.fmap

/-- The numbers l lie at A. -/
def UC (w : World) (A : Option Addr) (l : List Int) : Prop := (Kd.int .u64).C w A l.length l

theorem UC_iff {w : World} {A : Option Addr} {l : List Int} : UC w A l ↔ l.length ≤ 9223372036854775807 ∧ (0 < l.length → ∃ ad, A = some ad ∧ ∀ j, ∀ h : j < l.length, w.cell? (ad.add j) = some (.int .u64 l[j])) := by
  unfold UC Kd.C ReadsRow
  constructor
  · rintro ⟨_, h1, h2⟩
    refine ⟨h1, fun h => ?_⟩
    obtain ⟨ad, e, hc⟩ := h2 h
    refine ⟨ad, e, fun j hj => ?_⟩
    obtain ⟨c, _, hc1, hc2⟩ := hc j l[j] (by simp [hj])
    have hc1' : c = [.int .u64 l[j]] := hc1
    subst hc1'
    have := hc2 0 (.int .u64 l[j]) rfl
    have e1 : Kd.sz (Kd.int .u64) = 1 := rfl
    rw [e1] at this
    simpa using this
  · rintro ⟨h1, h2⟩
    refine ⟨rfl, h1, fun h => ?_⟩
    obtain ⟨ad, e, hc⟩ := h2 h
    refine ⟨ad, e, fun j p hp => ?_⟩
    obtain ⟨hj, rfl⟩ := List.getElem?_eq_some_iff.1 hp
    refine ⟨[.int .u64 l[j]], rfl, rfl, fun i u hu => ?_⟩
    have hi : i = 0 := by
      have := (List.getElem?_eq_some_iff.1 hu).1
      simpa using this
    subst hi
    simp at hu
    subst hu
    have e1 : Kd.sz (Kd.int .u64) = 1 := rfl
    rw [e1]
    simpa using hc j hj
theorem UC.lt {w : World} {A : Option Addr} {l : List Int} (h : UC w A l) (h0 : l ≠ []) : ∃ ad, A = some ad ∧ ad.block < w.heap.size ∧ ∃ c t f, w.heap[ad.block]? = some (.cells c t f) := by
  obtain ⟨ad, e, hc⟩ := (UC_iff.1 h).2 (List.length_pos_iff.2 h0)
  have h1 := hc 0 (List.length_pos_iff.2 h0)
  have hb : (ad.add 0).block = ad.block := by unfold Addr.add; split <;> rfl
  refine ⟨ad, e, ?_, ?_⟩
  · rw [← hb]
    exact World.block_lt_of_cell? _ _ h1
  · unfold World.cell? at h1
    rw [hb] at h1
    split at h1
    · rename_i c t f hc
      exact ⟨c, t, f, hc⟩
    · cases h1
theorem UC.kept {w w' : World} {row : Option Nat} {A : Option Addr} {l : List Int} (h : UC w A l) (hg : w.grownBy w' row) (hne : ∀ ad, A = some ad → row ≠ some ad.block) : UC w' A l := by
  rw [UC_iff] at h ⊢
  refine ⟨h.1, fun h0 => ?_⟩
  obtain ⟨ad, e, hc⟩ := h.2 h0
  refine ⟨ad, e, fun j hj => hg.cell (hc j hj) (fun e' => hne ad e ?_)⟩
  have hb : (ad.add j).block = ad.block := by unfold Addr.add; split <;> rfl
  rw [hb] at e'
  exact e'.symm
theorem UC.below {w w' : World} {A : Option Addr} {l : List Int} (h : UC w A l) (hb : Below w.heap.size w w') : UC w' A l := Kd.C_below h hb
theorem UC.nil {w : World} {A : Option Addr} : UC w A [] := by rw [UC_iff]; exact ⟨by simp, fun h => absurd h (by simp)⟩
/-- A map's store leaves it. -/
theorem UC.store {w w' : World} {A : Option Addr} {l : List Int} (h : UC w A l) {k : TypeId} {bm n : Nat} {f : Lit → Option Value} (hm : FM w Try.prog k bm n f) (hg : w.grownBy w' (some bm)) : UC w' A l := by
  by_cases h0 : l = []
  · subst h0
    exact UC.nil
  · refine h.kept hg (fun ad e e' => ?_)
    obtain ⟨ad', e2, _, c, t, fr, hc⟩ := h.lt h0
    rw [e] at e2
    cases e2
    obtain ⟨es, clock, hb⟩ := hm.block
    cases e'
    rw [hb] at hc
    cases hc

theorem nob_iff {w w' : World} : Below w.heap.size w w' ↔ w.grownBy w' none :=
  ⟨fun h => ⟨h.os, h.tape, h.output, h.size, fun k hk _ => h.block k hk⟩, fun h => ⟨h.os, h.tape, h.output, h.size, fun k hk => h.block k hk (by simp)⟩⟩
theorem alloc_below (w : World) (o : Obj) : Below w.heap.size w (w.alloc o) := (Below.refl _ _).alloc (Nat.le_refl _) _

theorem law29 : Keyed Try.prog 29 := int_keyed Try.underlying29
theorem infoU : (Try.prog.info? 29).map (fun i => (i.zero, i.size, i.bytes)) = some (some (.int .u64 0), 1, 8) := by kernel_rfl

/-- A reply, its row at A. -/
abbrev rv (x : S35) (A : Option Addr) (c : Nat) : Value := .agg #[.int .i64 x.f0, .int .i64 x.f1, .int .u64 x.f2.f0, .int .i64 x.f2.f1, .int .i64 x.f2.f2, .int .i64 x.f2.f3, .int .u64 x.f2.f4, .int .i64 x.f2.f5, .int .i64 x.f2.f6, .int .i64 x.f2.f7, .int .i64 x.f2.f8, .slice A x.f3.length c, .int .u64 x.f4, .int .i64 x.f5]

/-! ### none, Empty -/
theorem none_some (w : World) (b bm : Nat) (h1 : w.cell? ⟨b, 0, none⟩ = some (.map (some bm))) : Calls Try.prog 26 #[.pointer (some ⟨b, 0, none⟩)] w fun e w' => e = .returned (.bool false) ∧ w = w' := by
  have q := fun (w : World) (r : Option Nat) => run_eql_map_nil (P := Try.prog) w _ _ _ r Try.underlying64
  go_enter Try.func26, Try.ntmps26
  go_wp2
  go_ret
  exact ⟨rfl, rfl⟩

theorem empty_ok (w : World) : Calls Try.prog 9 #[] w fun e w' => e = .returned (.pointer (some ⟨w.heap.size + 1, 0, none⟩)) ∧ w' = (w.alloc (.map #[] 0)).alloc (.cells #[.map (some w.heap.size)] 66) := by
  have hmm := @run_makeMap Try.prog
  go_enter Try.func9, Try.ntmps9
  go_wp2
  go_ret
  exact ⟨by simp, rfl⟩

/-! ### Rows of fourteen -/
/-- A reply's cells. -/
abbrev rc (x : S35) (v : Value) : Array Value := #[.int .i64 x.f0, .int .i64 x.f1, .int .u64 x.f2.f0, .int .i64 x.f2.f1, .int .i64 x.f2.f2, .int .i64 x.f2.f3, .int .u64 x.f2.f4, .int .i64 x.f2.f5, .int .i64 x.f2.f6, .int .i64 x.f2.f7, .int .i64 x.f2.f8, v, .int .u64 x.f4, .int .i64 x.f5]
abbrev rz : Array Value := #[.int .i64 0, .int .i64 0, .int .u64 0, .int .i64 0, .int .i64 0, .int .i64 0, .int .u64 0, .int .i64 0, .int .i64 0, .int .i64 0, .int .i64 0, .slice none 0 0, .int .u64 0, .int .i64 0]
/-- A reply, stored cell by cell. -/
abbrev set14 (w : World) (g : Nat) (x : S35) (v : Value) : World :=
  (((((((((((((w.setCell ⟨g, 0, none⟩ (.int .i64 x.f0)).setCell ⟨g, 1, none⟩ (.int .i64 x.f1)).setCell ⟨g, 2, none⟩ (.int .u64 x.f2.f0)).setCell ⟨g, 3, none⟩ (.int .i64 x.f2.f1)).setCell ⟨g, 4, none⟩ (.int .i64 x.f2.f2)).setCell ⟨g, 5, none⟩ (.int .i64 x.f2.f3)).setCell ⟨g, 6, none⟩ (.int .u64 x.f2.f4)).setCell ⟨g, 7, none⟩ (.int .i64 x.f2.f5)).setCell ⟨g, 8, none⟩ (.int .i64 x.f2.f6)).setCell ⟨g, 9, none⟩ (.int .i64 x.f2.f7)).setCell ⟨g, 10, none⟩ (.int .i64 x.f2.f8)).setCell ⟨g, 11, none⟩ (v)).setCell ⟨g, 12, none⟩ (.int .u64 x.f4)).setCell ⟨g, 13, none⟩ (.int .i64 x.f5)
theorem set14_heap {w : World} {g : Nat} {t : TypeId} {cs : Array Value} (hs : cs.size = 14) (h : w.heap[g]? = some (.cells cs t (0, 0))) (x : S35) (v : Value) : (set14 w g x v).heap[g]? = some (.cells (rc x v) t (0, 0)) := by
  obtain ⟨l⟩ := cs
  match l, hs with
  | [c0, c1, c2, c3, c4, c5, c6, c7, c8, c9, c10, c11, c12, c13], _ =>
    have := blk_set (blk_set (blk_set (blk_set (blk_set (blk_set (blk_set (blk_set (blk_set (blk_set (blk_set (blk_set (blk_set (blk_set h 0 (.int .i64 x.f0)) 1 (.int .i64 x.f1)) 2 (.int .u64 x.f2.f0)) 3 (.int .i64 x.f2.f1)) 4 (.int .i64 x.f2.f2)) 5 (.int .i64 x.f2.f3)) 6 (.int .u64 x.f2.f4)) 7 (.int .i64 x.f2.f5)) 8 (.int .i64 x.f2.f6)) 9 (.int .i64 x.f2.f7)) 10 (.int .i64 x.f2.f8)) 11 v) 12 (.int .u64 x.f4)) 13 (.int .i64 x.f5)
    simpa only [List.setIfInBounds_toArray, List.set_cons_zero, List.set_cons_succ] using this
theorem set14_grown (w : World) (g : Nat) (x : S35) (v : Value) : w.grownBy (set14 w g x v) (some g) := by
  have one : ∀ (w : World) (i : Nat) (v : Value), w.grownBy (w.setCell ⟨g, i, none⟩ v) (some g) := fun w i v =>
    ⟨rfl, rfl, rfl, by simp, fun k hk hne => Below.heap_setCell w ⟨g, i, none⟩ v k (fun e => hne (by rw [e]))⟩
  have two : ∀ {w w1 : World} (i : Nat) (v : Value), w.grownBy w1 (some g) → w.grownBy (w1.setCell ⟨g, i, none⟩ v) (some g) := fun i v h => h.andThen (one _ i v) (by simp)
  exact two 13 _ (two 12 _ (two 11 _ (two 10 _ (two 9 _ (two 8 _ (two 7 _ (two 6 _ (two 5 _ (two 4 _ (two 3 _ (two 2 _ (two 1 _ (one _ 0 _)))))))))))))

/-! ### Copy -/
theorem UC_block {w : World} {g : Nat} {l : List Int} (h : w.heap[g]? = some (.cells (l.map (Value.int .u64)).toArray 29 (0, 0))) (hl : l.length ≤ 9223372036854775807) : UC w (some ⟨g, 0, none⟩) l := by
  rw [UC_iff]
  refine ⟨hl, fun _ => ⟨_, rfl, fun j hj => ?_⟩⟩
  rw [Addr.add_lit, blk_cell h]
  simp [hj]
theorem madeU (n : Nat) : (madeCells #[.int .u64 0] n).toList.toArray = madeCells #[.int .u64 0] n := by simp
set_option maxRecDepth 100000 in
set_option maxHeartbeats 800000 in
theorem copy_ok (w : World) (x : S35) (A : Option Addr) (c : Nat) (h : UC w A x.f3) (hc : x.f3.length ≤ c) (hl : x.f3.length ≤ 1000) :
    Calls Try.prog 27 #[.agg #[.int .i64 x.f0, .int .i64 x.f1, .int .u64 x.f2.f0, .int .i64 x.f2.f1, .int .i64 x.f2.f2, .int .i64 x.f2.f3, .int .u64 x.f2.f4, .int .i64 x.f2.f5, .int .i64 x.f2.f6, .int .i64 x.f2.f7, .int .i64 x.f2.f8, .slice A x.f3.length c, .int .u64 x.f4, .int .i64 x.f5]] w fun e w' => ∃ A' c', e = .returned (rv x A' c') ∧ UC w' A' x.f3 ∧ x.f3.length ≤ c' ∧ (∀ ad, A' = some ad → w.heap.size ≤ ad.block) ∧ Below w.heap.size w w' := by
  have hmk := run_make_row' (P := Try.prog) 33 29 (.int .u64 0) 8 Try.underlying33 infoU rfl .i64 .i64 x.f3.length (by omega) (by omega)
  have hu35 := Try.underlying35
  have HU := Lib.hid h
  clear h
  go_enter Try.func27, Try.ntmps27
  have H0 := Lib.hid (heap_alloc_new w (.cells #[.int .i64 x.f0, .int .i64 x.f1, .int .u64 x.f2.f0, .int .i64 x.f2.f1, .int .i64 x.f2.f2, .int .i64 x.f2.f3, .int .u64 x.f2.f4, .int .i64 x.f2.f5, .int .i64 x.f2.f6, .int .i64 x.f2.f7, .int .i64 x.f2.f8, .slice A x.f3.length c, .int .u64 x.f4, .int .i64 x.f5] 35))
  have H1 := Lib.hid (heap_alloc_new (w.alloc (.cells #[.int .i64 x.f0, .int .i64 x.f1, .int .u64 x.f2.f0, .int .i64 x.f2.f1, .int .i64 x.f2.f2, .int .i64 x.f2.f3, .int .u64 x.f2.f4, .int .i64 x.f2.f5, .int .i64 x.f2.f6, .int .i64 x.f2.f7, .int .i64 x.f2.f8, .slice A x.f3.length c, .int .u64 x.f4, .int .i64 x.f5] 35)) (.cells #[.int .i64 0, .int .i64 0, .int .u64 0, .int .i64 0, .int .i64 0, .int .i64 0, .int .u64 0, .int .i64 0, .int .i64 0, .int .i64 0, .int .i64 0, .slice none 0 0, .int .u64 0, .int .i64 0] 35))
  have H2 := Lib.hid (heap_alloc_new ((w.alloc (.cells #[.int .i64 x.f0, .int .i64 x.f1, .int .u64 x.f2.f0, .int .i64 x.f2.f1, .int .i64 x.f2.f2, .int .i64 x.f2.f3, .int .u64 x.f2.f4, .int .i64 x.f2.f5, .int .i64 x.f2.f6, .int .i64 x.f2.f7, .int .i64 x.f2.f8, .slice A x.f3.length c, .int .u64 x.f4, .int .i64 x.f5] 35)).alloc (.cells #[.int .i64 0, .int .i64 0, .int .u64 0, .int .i64 0, .int .i64 0, .int .i64 0, .int .u64 0, .int .i64 0, .int .i64 0, .int .i64 0, .int .i64 0, .slice none 0 0, .int .u64 0, .int .i64 0] 35)) (.cells (madeCells #[.int .u64 0] x.f3.length) 29))
  go_wp2_with (with_reducible refine wpList_copy_splice (o := ⟨some 11, _, _, _, _, _⟩) rfl (.tmp 8) (.tmp 10) 33 33 rfl 29 Try.underlying33 (by kernel_rfl) (some ⟨w.heap.size + 1 + 1, 0, none⟩) A x.f3.length x.f3.length x.f3.length c rfl rfl (w.heap.size + 1 + 1) 0 (madeCells #[.int .u64 0] x.f3.length).toList 29 ?hg (x.f3.map (.int .u64)) ?hn ?hpos ?hfit ?h1 (w.heap.size + 1 + 1) ((w.alloc (.cells #[.int .i64 x.f0, .int .i64 x.f1, .int .u64 x.f2.f0, .int .i64 x.f2.f1, .int .i64 x.f2.f2, .int .i64 x.f2.f3, .int .u64 x.f2.f4, .int .i64 x.f2.f5, .int .i64 x.f2.f6, .int .i64 x.f2.f7, .int .i64 x.f2.f8, .slice A x.f3.length c, .int .u64 x.f4, .int .i64 x.f5] 35)).alloc (.cells #[.int .i64 0, .int .i64 0, .int .u64 0, .int .i64 0, .int .i64 0, .int .i64 0, .int .u64 0, .int .i64 0, .int .i64 0, .int .i64 0, .int .i64 0, .slice none 0 0, .int .u64 0, .int .i64 0] 35)) ?hb (Nat.le_refl _) ?_)
  case hg => rw [madeU]; simpa using H2.out
  case hn => simp
  case hpos =>
    intro hp
    obtain ⟨ad, e, hcell⟩ := (UC_iff.1 HU.out).2 (by simpa using hp)
    refine ⟨ad, e, fun j v hv => ?_⟩
    obtain ⟨hj, rfl⟩ := List.getElem?_eq_some_iff.1 hv
    have h1 := hcell j hj
    have hblt := World.block_lt_of_cell? _ _ h1
    rw [World.cell?_alloc_lt _ _ _ (by simp; omega), World.cell?_alloc_lt _ _ _ (by simp; omega), World.cell?_alloc_lt _ _ _ hblt]
    exact h1
  case hfit => simp [size_madeCells]
  case h1 => exact ints_oneCell .u64 x.f3
  case hb => exact (Below.refl _ _).alloc (by simp) _
  intro w3 HG hB
  have hk0 : w3.heap[w.heap.size]? = some (.cells #[.int .i64 x.f0, .int .i64 x.f1, .int .u64 x.f2.f0, .int .i64 x.f2.f1, .int .i64 x.f2.f2, .int .i64 x.f2.f3, .int .u64 x.f2.f4, .int .i64 x.f2.f5, .int .i64 x.f2.f6, .int .i64 x.f2.f7, .int .i64 x.f2.f8, .slice A x.f3.length c, .int .u64 x.f4, .int .i64 x.f5] 35 (0, 0)) := (hB.block _ (by omega)).trans ((Below.heap_alloc _ _ _ (by simp)).trans H0.out)
  have hk1 : w3.heap[w.heap.size + 1]? = some (.cells #[.int .i64 0, .int .i64 0, .int .u64 0, .int .i64 0, .int .i64 0, .int .i64 0, .int .u64 0, .int .i64 0, .int .i64 0, .int .i64 0, .int .i64 0, .slice none 0 0, .int .u64 0, .int .i64 0] 35 (0, 0)) := (hB.block _ (by omega)).trans (by simpa using H1.out)
  have HB := Lib.hid ((alloc_below w (.cells #[.int .i64 x.f0, .int .i64 x.f1, .int .u64 x.f2.f0, .int .i64 x.f2.f1, .int .i64 x.f2.f2, .int .i64 x.f2.f3, .int .u64 x.f2.f4, .int .i64 x.f2.f5, .int .i64 x.f2.f6, .int .i64 x.f2.f7, .int .i64 x.f2.f8, .slice A x.f3.length c, .int .u64 x.f4, .int .i64 x.f5] 35)).trans (((alloc_below _ (.cells #[.int .i64 0, .int .i64 0, .int .u64 0, .int .i64 0, .int .i64 0, .int .i64 0, .int .u64 0, .int .i64 0, .int .i64 0, .int .i64 0, .int .i64 0, .slice none 0 0, .int .u64 0, .int .i64 0] 35)).trans (hB.mono (by simp))).mono (by simp)))
  have HK0 := Lib.hid hk0
  have HK1 := Lib.hid hk1
  have HGG := Lib.hid HG
  have z0 := blk_cell hk0 0
  have z1 := blk_cell hk0 1
  have z2 := blk_cell hk0 2
  have z3 := blk_cell hk0 3
  have z4 := blk_cell hk0 4
  have z5 := blk_cell hk0 5
  have z6 := blk_cell hk0 6
  have z7 := blk_cell hk0 7
  have z8 := blk_cell hk0 8
  have z9 := blk_cell hk0 9
  have z10 := blk_cell hk0 10
  have z11 := blk_cell hk0 11
  have z12 := blk_cell hk0 12
  have z13 := blk_cell hk0 13
  have y0 := blk_cell hk1 0
  have y1 := blk_cell hk1 1
  have y2 := blk_cell hk1 2
  have y3 := blk_cell hk1 3
  have y4 := blk_cell hk1 4
  have y5 := blk_cell hk1 5
  have y6 := blk_cell hk1 6
  have y7 := blk_cell hk1 7
  have y8 := blk_cell hk1 8
  have y9 := blk_cell hk1 9
  have y10 := blk_cell hk1 10
  have y11 := blk_cell hk1 11
  have y12 := blk_cell hk1 12
  have y13 := blk_cell hk1 13
  have g0 := blk_frozen hk1 0
  have g1 := blk_frozen hk1 1
  have g2 := blk_frozen hk1 2
  have g3 := blk_frozen hk1 3
  have g4 := blk_frozen hk1 4
  have g5 := blk_frozen hk1 5
  have g6 := blk_frozen hk1 6
  have g7 := blk_frozen hk1 7
  have g8 := blk_frozen hk1 8
  have g9 := blk_frozen hk1 9
  have g10 := blk_frozen hk1 10
  have g11 := blk_frozen hk1 11
  have g12 := blk_frozen hk1 12
  have g13 := blk_frozen hk1 13
  have f11 := blk_frozen hk0 11
  clear hB H0 H1 H2 hk0 hk1 HG
  go_wp2_with (fail)
  have hk1' := blk_far HK1.out (p := ⟨w.heap.size, 11, none⟩) (by simp) (.slice (some ⟨w.heap.size + 1 + 1, 0, none⟩) x.f3.length x.f3.length)
  refine bodyPost_ret (results_cell_row rfl _ _ (w.heap.size + 1) 35 (rc x (.slice (some ⟨w.heap.size + 1 + 1, 0, none⟩) x.f3.length x.f3.length)) (0, 0) _ rfl (set14_heap rfl hk1' x _) Try.underlying35 rfl (by kernel_rfl)) rfl ?_
  have hg := set14_grown (w3.setCell ⟨w.heap.size, 11, none⟩ (.slice (some ⟨w.heap.size + 1 + 1, 0, none⟩) x.f3.length x.f3.length)) (w.heap.size + 1) x (.slice (some ⟨w.heap.size + 1 + 1, 0, none⟩) x.f3.length x.f3.length)
  have hG : w3.heap[w.heap.size + 1 + 1]? = some (.cells (x.f3.map (Value.int .u64)).toArray 29 (0, 0)) := by
    have := HGG.out
    rw [show splice (madeCells #[Value.int .u64 0] x.f3.length).toList 0 (x.f3.map (.int .u64)) = x.f3.map (.int .u64) by simp [splice, size_madeCells]] at this
    exact this
  have hB1 : Below w.heap.size w (w3.setCell ⟨w.heap.size, 11, none⟩ (.slice (some ⟨w.heap.size + 1 + 1, 0, none⟩) x.f3.length x.f3.length)) := HB.out.setCell (Nat.le_refl _) _
  refine ⟨_, _, rfl, UC_block (blk_grown (blk_far hG (by simp; omega) _) hg (by simp)) (by omega), Nat.le_refl _, (fun ad e => by cases e; simp; omega), hB1.grown hg hB1.size (by intro k e; cases e; omega)⟩
end Go.Proofs.Ytnffdpilaojgpaa
