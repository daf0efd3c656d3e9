/-
  The contract of a table's Nodes: slices.Sorted(maps.Keys(..)) at a map of lines.
-/
import Derived.Test.YtibdjmmhdggpfaaGShelf
import Derived.Test.YtibdjmmhdggpfaaGOps
namespace Go.Proofs.Ytibdjmmhdggpfaa
set_option linter.unusedVariables false
set_option linter.unusedSimpArgs false
open Go.RowKit Go.Maps Go.Sort Go.Shelf Go.Proofs.YtibdjmmhdggpfaaW.PrintWords Go.Proofs.YtibdjmmhdggpfaaW.PrintMore Go.Proofs.Ytibdjmmhdggpfaa.PPollPlays Go.Proofs.Ytibdjmmhdggpfaa.pure Go.Proofs.Ytibdjmmhdggpfaa.fmap

theorem sortsA (m : Nat) : AnyZI.SortsIn Try.prog sortedA_ren Fence.wide m :=
  ⟨fun blk off cap ss W hH hblk hsz => callsIn_wide.2 (AnyM.slices_Sort_int sortA blk off cap ss W hH hblk hsz),
   fun p cap W => callsIn_wide.2 (AnyM.slices_Sort_int_none sortA p cap W)⟩
theorem keys_ok (mb : Option Nat) (w : World) : Calls Try.prog 63 #[.map mb] w fun e w' => e = .returned (.func (.func 76) #[] #[.pointer (some ⟨w.heap.size, 0, none⟩)]) ∧ w' = w.alloc (.cells #[.map mb] 75) :=
  (callsIn_wide (n := 5)).1 (AnyZI.keys_in keysA Fence.wide 5 trivial rfl mb w)
/-- What Sorted leaves. -/
def SortedK (w : World) (P : List Int → Prop) (e : Ending) (w' : World) : Prop := ∃ (v : Value) (ss : List Int), e = .returned v ∧ P ss ∧
  w'.ownsRow w.heap.size 3 1 v ss.length ((ss.mergeSort (fun x y => decide (x ≤ y))).map encZ) ∧ (v = .slice none 0 0 ↔ ss = []) ∧ Below w.heap.size w w'
theorem sorted_keys (w : World) (bm n : Nat) (D : DataW Value) (hown : w.ownsMap Try.prog 3 held bm n D) (hn : n ≤ 100) :
    Calls Try.prog 62 #[.func (.func 76) #[] #[.pointer (some ⟨w.heap.size, 0, none⟩)]] (w.alloc (.cells #[.map (some bm)] 75)) (SortedK (w.alloc (.cells #[.map (some bm)] 75)) (fun ss => ss.Perm (intKeys D))) := by
  have hbl := hown.lt
  have hsz := hown.size_le
  have hseq : SeqGives Fence.wide 2 Try.prog 76 #[.pointer (some ⟨w.heap.size, 0, none⟩)] encZ (fun ss => ss.Perm (intKeys D)) (Maps.size D) (w.alloc (.cells #[.map (some bm)] 75)) :=
    AnyZI.keys_gives (ρ := keysA_ren) { keysA with } Fence.wide _ trivial rfl (by omega) w.heap.size bm n D _ (by simp) (by simp) (by
      obtain ⟨es, clock, hb, Ft, hs, hD⟩ := hown
      exact ⟨es, clock, (Below.heap_alloc _ _ bm hbl).trans hb, Ft, hs, hD⟩)
  have cS := AnyZI.sorted_in sortedA Fence.wide 5 trivial trivial trivial trivial rfl (by omega) (sortsA _) (enters_of Try.func72 (by kernel_rfl) rfl) 76 #[.pointer (some ⟨w.heap.size, 0, none⟩)] trivial (enters_of Try.func76 (by kernel_rfl) rfl) _ _ (by unfold maxLen; omega) (by omega) _ hseq
  change CallsIn _ _ Try.prog 62 _ _ _ at cS
  exact callsIn_wide.1 cS

/-- The nodes of which there are lines. -/
def tnodes (t : Tb) : List Int := rowp (fun x => (t x).isSome)
theorem view_has {D : DataW Value} {kl : Lit} : (view D kl).isSome = Maps.has D kl := by
  unfold view
  cases Maps.has D kl <;> simp
theorem keys_perm {w : World} {bm n : Nat} {D : DataW Value} {bl : Int → Nat} {t : Tb} (hown : w.ownsMap Try.prog 3 held bm n D) (hv : tabf bl t = view D) (ht : TOk t) : (tnodes t).Perm (intKeys D) := by
  obtain ⟨es, rfl, hp, hkl⟩ := hown.entries law3
  have hiss : ∀ kl, (tabf bl t kl).isSome = Maps.has (.map es) kl := fun kl => by rw [hv]; exact view_has
  refine perm_intKeys hp (fun p hpm => ?_) ((rowp_sorted _).imp (fun h => by omega)) (fun x => ?_)
  · have h1 : Maps.has (.map es) p.1 = true := List.any_eq_true.2 ⟨p, hpm, WideAt.sameKey_self (hkl p hpm)⟩
    rw [← hiss] at h1
    unfold tabf at h1
    split at h1
    · next x he => exact ⟨_, he⟩
    · cases h1
  · rw [← hiss]
    unfold tnodes
    rw [mem_rowp]
    unfold tabf
    simp only
    constructor
    · rintro ⟨_, h⟩
      simp [h]
    · intro h
      by_cases e : (t x).isSome = true
      · obtain ⟨y, hy⟩ := Option.isSome_iff_exists.1 e
        exact ⟨ht.key x y hy, e⟩
      · simp [e] at h
theorem sorted_tnodes {t : Tb} {ss l : List Int} (h : ss.Perm l) (h2 : (tnodes t).Perm l) : ss.mergeSort (fun x y => decide (x ≤ y)) = tnodes t := by
  rw [mergeSort_of_perm_i (h.trans h2.symm)]
  refine List.mergeSort_of_pairwise ((rowp_sorted _).imp (fun h => by simp; omega))
theorem Nodes_ok (w : World) (B b bm : Nat) (bl : Int → Nat) (t : Tb) (h : TAt w B b bm bl t) : Calls Try.prog 34 #[.pointer (some ⟨b, 0, none⟩)] w (Gives w (tnodes t)) := by
  have h0 := h.c0
  obtain ⟨D, hown, hv⟩ := h.map
  have hp := Lib.hid (keys_perm hown hv h.ok)
  have HS := Lib.hid (sorted_keys w bm 7 D hown (by omega))
  clear h hown hv
  go_enter Try.func34, Try.ntmps34
  go_wp2_with (first
    | (go_at_call 63; refine (keys_ok _ _).mono ?_; rintro e w1 ⟨rfl, rfl⟩)
    | (go_at_call 62; refine HS.out.mono ?_; rintro e w2 ⟨v, ss, rfl, hss, hrow, hnil, hb⟩))
  go_ret
  have hrow2 := ownsRow_base_a (base' := w.heap.size) hrow (by simp)
  rw [sorted_tnodes hss hp.out] at hrow2
  have hlen : ss.length = (tnodes t).length := (hss.trans hp.out.symm).length_eq
  rw [hlen] at hrow2
  exact ⟨v, rfl, intR_of_owns hrow2, (alloc_below _ _).trans (hb.mono (by simp))⟩
end Go.Proofs.Ytibdjmmhdggpfaa
