/-
  The document's Set.
-/
import Derived.Test.YtibdjmmhdggpfaaGRef3
import Derived.Test.YtibdjmmhdggpfaaGSet
namespace Go.Proofs.Ytibdjmmhdggpfaa
set_option linter.unusedVariables false
set_option linter.unusedSimpArgs false
open Go.RowKit Go.Maps Go.Proofs.YtibdjmmhdggpfaaW.PrintWords Go.Proofs.YtibdjmmhdggpfaaW.PrintMore Go.Proofs.Ytibdjmmhdggpfaa.PPollPlays Go.Proofs.Ytibdjmmhdggpfaa.pure Go.Proofs.Ytibdjmmhdggpfaa.fmap

/-- The same table, but whether there is line k, and which. -/
def tset (t : Tb) (k : Int) (v : Option Ln) : Tb := fun j => if j = k then v else t j
theorem RT.sets {cs : Array Value} {t : Tb} (h : RT cs t) {k : Nat} (hk : k < 7) (y : Ln) (b : Bool) (hy : b = false → y = z0) : RT ((lput cs k y).setIfInBounds k (.bool b)) (tset t k (if b then some y else none)) := by
  have hsz := h.size
  have hs2 : (lput cs k y).size = 35 := by rw [rows.size_setMid, hsz]
  have lz : lnz (tset t k (if b then some y else none)) k = y := by
    cases b with
    | true => simp [lnz, tset]
    | false => simp [lnz, tset, hy rfl]
  have lo : ∀ j : Nat, j ≠ k → tset t k (if b then some y else none) j = t j := fun j hj => by unfold tset; rw [if_neg (by omega)]
  have lo2 : ∀ j : Nat, j ≠ k → lnz (tset t k (if b then some y else none)) j = lnz t j := fun j hj => by unfold lnz; rw [lo j hj]
  have out : ∀ j : Nat, j ≠ k → ((lput cs k y).setIfInBounds k (.bool b))[j]? = (lput cs k y)[j]? := fun j hj => by rw [Array.getElem?_setIfInBounds, if_neg (by omega)]
  refine ⟨by simp [hs2], all_set (lput_one h.one k y) _ rfl, fun j hj => ?_, fun j hj => ?_, fun j hj => ?_, fun j hj => ?_, fun j hj => ?_, fun j hj => ?_⟩
  · by_cases e : j = k
    · subst e
      rw [Array.getElem?_setIfInBounds, if_pos rfl, if_pos (by omega)]
      unfold tset
      rw [if_pos rfl]
      cases b <;> rfl
    · rw [out j e, lput_get (by omega), lo j e]; exact h.has j hj
  · rw [out _ (by omega)]
    by_cases e : j = k
    · subst e; rw [lz]; exact lput_m (by omega)
    · rw [lput_get (by omega), lo2 j e]; exact h.m j hj
  · rw [out _ (by omega)]
    by_cases e : j = k
    · subst e; rw [lz]; exact lput_n (by omega)
    · rw [lput_get (by omega), lo2 j e]; exact h.n j hj
  · rw [out _ (by omega)]
    by_cases e : j = k
    · subst e; rw [lz]; exact lput_r (by omega)
    · rw [lput_get (by omega), lo2 j e]; exact h.r j hj
  · rw [out _ (by omega)]
    by_cases e : j = k
    · subst e; rw [lz]; exact lput_a (by omega)
    · rw [lput_get (by omega), lo2 j e]; exact h.a j hj
  · by_cases e : j = k
    · rw [e]; omega
    · unfold tset at hj
      rw [if_neg e] at hj
      exact h.key j hj
/-- Writing what is there. -/
theorem set_same {cs : Array Value} {k : Nat} {v : Value} (h : cs[k]? = some v) : cs.setIfInBounds k v = cs := by
  apply Array.ext_getElem?
  intro j
  rw [Array.getElem?_setIfInBounds]
  by_cases e : k = j
  · subst e
    rw [if_pos rfl, if_pos (Array.getElem?_eq_some_iff.1 h).1, h]
  · rw [if_neg e]
theorem lput_next {cs : Array Value} {k : Nat} (y : Ln) (n : Int) (hs : 7 + k * 4 + 3 < cs.size) : (lput cs k y).setIfInBounds (7 + k * 4 + 1) (.int .u64 n) = lput cs k { y with n := n } := by
  have hs2 : (lput cs k y).size = cs.size := rows.size_setMid _ _ _
  apply Array.ext_getElem?
  intro j
  rw [Array.getElem?_setIfInBounds]
  by_cases e : 7 + k * 4 + 1 = j
  · subst e
    rw [if_pos rfl, if_pos (by omega), lput_n hs]
  · rw [if_neg e]
    by_cases e0 : j < 7 + k * 4 ∨ 7 + k * 4 + 3 < j
    · rw [lput_get e0, lput_get e0]
    · obtain rfl | rfl | rfl : j = 7 + k * 4 ∨ j = 7 + k * 4 + 2 ∨ j = 7 + k * 4 + 3 := by omega
      · rw [lput_m hs, lput_m hs]
      · rw [lput_r hs, lput_r hs]
      · rw [lput_a hs, lput_a hs]
theorem lput_self {cs : Array Value} {t : Tb} (h : RT cs t) {k : Nat} (hk : k < 7) : lput cs k (lnz t k) = cs := by
  have hs : 7 + k * 4 + 3 < cs.size := by have := h.size; omega
  apply Array.ext_getElem?
  intro j
  by_cases e0 : j < 7 + k * 4 ∨ 7 + k * 4 + 3 < j
  · rw [lput_get e0]
  · obtain rfl | rfl | rfl | rfl : j = 7 + k * 4 ∨ j = 7 + k * 4 + 1 ∨ j = 7 + k * 4 + 2 ∨ j = 7 + k * 4 + 3 := by omega
    · rw [lput_m hs, h.m k hk]
    · rw [lput_n hs, h.n k hk]
    · rw [lput_r hs, h.r k hk]
    · rw [lput_a hs, h.a k hk]

/-- Those below k are as Set wants them. -/
def mix (t : Tb) (l : List Int) (last : Int) (k : Nat) : Tb := fun j => if j < k then news t l last j else t j
theorem mix_zero {t : Tb} (h : ∀ k, (t k).isSome = true → 0 ≤ k ∧ k ≤ 6) (l : List Int) (last : Int) : mix t l last 0 = t := by
  funext j
  unfold mix
  by_cases e : j < ((0 : Nat) : Int)
  · rw [if_pos e]
    unfold news
    rw [if_neg (by simp at e; omega)]
    cases ht : t j with
    | none => rfl
    | some x =>
      have := h j (by rw [ht]; rfl)
      simp at e
      omega
  · rw [if_neg e]
theorem mix_all {t : Tb} (h : ∀ k, (t k).isSome = true → 0 ≤ k ∧ k ≤ 6) (l : List Int) (last : Int) : mix t l last 7 = news t l last := by
  funext j
  unfold mix
  by_cases e : j < ((7 : Nat) : Int)
  · rw [if_pos e]
  · rw [if_neg e]
    unfold news
    rw [if_neg (by simp at e; omega)]
    cases ht : t j with
    | none => rfl
    | some x =>
      have := h j (by rw [ht]; rfl)
      simp at e
      omega
theorem mix_at (t : Tb) (l : List Int) (last : Int) (k : Nat) : mix t l last k k = t k := by unfold mix; rw [if_neg (by omega)]
theorem mix_succ (t : Tb) (l : List Int) (last : Int) {k : Nat} (hk : k < 7) : mix t l last (k + 1) = tset (mix t l last k) k (if (k : Int) ∈ l then some ((t k).getD (nl last)) else none) := by
  funext j
  unfold mix tset
  by_cases e : j = k
  · subst e
    rw [if_pos (by omega), if_pos rfl]
    unfold news
    by_cases h : (k : Int) ∈ l
    · rw [if_pos h, if_pos ⟨h, by omega, by omega⟩]
    · rw [if_neg h, if_neg (fun hh => h hh.1)]
  · rw [if_neg e]
    show _ = if j < (k : Int) then news t l last j else t j
    by_cases h : j < (k : Int)
    · rw [if_pos h, if_pos (by omega)]
    · rw [if_neg h, if_neg (by omega)]

set_option maxRecDepth 100000 in
set_option maxHeartbeats 400000 in
theorem rset_far (w : World) (cs : Array Value) (t : Tb) (h : RT cs t) (A : Option Addr) (c n : Nat) (last : Int) (hx : ¬ last ≤ IX) : Calls Try.prog 29 #[.agg cs, .slice A n c, .int .u64 last] w (TabBool w t false) := by
  have hi := info60 h.size
  have hz := zero60
  have HR := Lib.hid h
  have HT := Lib.hid (two_blocks w cs)
  have hq : decide ((1152921504606846976 : Int) < last) = true := by unfold IX at hx; simp; omega
  clear h hx
  go_enter Try.func29, Try.ntmps29
  go_upto_region 1 with (fail)
  generalize (w.alloc (.cells cs 60)).alloc (.cells Z60 60) = W at HT ⊢
  have HB0 := Lib.hid HT.out.1
  have HB1 := Lib.hid HT.out.2.1
  have hlt := blk_lt HT.out.2.1
  go_wp2_with (first
    | ((with_reducible refine wpList_load_row rfl 60 _ rfl w.heap.size ?_ 60 cs (0, 0) _ HB0.out Try.underlying60 ?_ hi ?_); rfl; rfl)
    | ((with_reducible refine wpList_store_row rfl 60 _ _ rfl (w.heap.size + 1) cs ?_ ?_ 60 Z60 HB1.out hi ?_ HR.out.one ?_); rfl; rfl; (rw [Z60_size, HR.out.size])))
  exact ret_row Try.results29 rfl rfl (setRow_heap _ _ _ _ _ _ HB1.out) HR.out.size rfl ⟨cs, rfl, HR.out, setRow_below HT.out.2.2 (by omega)⟩

/-- At the head of a round of the document's Set. -/
structure RSet (w : World) (t : Tb) (l : List Int) (last : Int) (k : Nat) (cs : Array Value) (wr : World) : Prop where
  a : wr.heap[w.heap.size]? = some (.cells cs 60 (0, 0))
  b : wr.heap[w.heap.size + 1]? = some (.cells Z60 60 (0, 0))
  rt : RT cs (mix t l last k)
  bel : Below w.heap.size w wr
theorem RSet.below {w : World} {t : Tb} {l : List Int} {last : Int} {k : Nat} {cs : Array Value} {wr w' : World} (h : RSet w t l last k cs wr) (hb : Below wr.heap.size wr w') : RSet w t l last k cs w' :=
  ⟨blk_below h.a hb, blk_below h.b hb, h.rt, h.bel.trans (hb.mono h.bel.size)⟩
theorem RSet.put {w : World} {t : Tb} {l : List Int} {last : Int} {k : Nat} {cs cs' : Array Value} {wr : World} (h : RSet w t l last k cs wr) (hr : RT cs' (mix t l last (k + 1))) : RSet w t l last (k + 1) cs' (wr.setRow w.heap.size cs') :=
  ⟨setRow_heap _ _ _ _ _ _ h.a, (setRow_other _ _ _ _ (by omega)).trans h.b, hr, setRow_below h.bel (Nat.le_refl _)⟩
theorem RSet.next {w : World} {t : Tb} {l : List Int} {last : Int} {k : Nat} {cs : Array Value} {wr : World} (h : RSet w t l last k cs wr) (hk : k < 7) {b : Bool} (hb : decide ((k : Int) ∈ l) = b) {y : Ln} (hy : y = if b then (t k).getD (nl last) else z0) :
    RT ((lput cs k y).setIfInBounds k (.bool b)) (mix t l last (k + 1)) := by
  rw [mix_succ t l last hk]
  have := h.rt.sets hk y b (by rintro rfl; simpa using hy)
  cases b with
  | true =>
    have hm : (k : Int) ∈ l := by simpa using hb
    simp only [if_true] at hy this
    rw [if_pos hm, ← hy]
    exact this
  | false =>
    have hm : ¬ (k : Int) ∈ l := by simpa using hb
    rw [if_neg hm]
    simpa using this
theorem RSet.self {w : World} {t : Tb} {l : List Int} {last : Int} {k : Nat} {cs : Array Value} {wr : World} (h : RSet w t l last k cs wr) (hk : k < 7) : lput cs k (lnz t k) = cs := by
  have := lput_self h.rt hk
  have e : lnz (mix t l last k) k = lnz t k := by unfold lnz; rw [mix_at]
  rw [e] at this
  exact this
theorem setRow_two (w : World) (g : Nat) (a b : Array Value) : (w.setRow g a).setRow g b = w.setRow g b := setRow_setRow w g a b

set_option maxRecDepth 100000 in
set_option maxHeartbeats 2000000 in
theorem rset_near (w : World) (cs : Array Value) (t : Tb) (h : RT cs t) (A : Option Addr) (c : Nat) (l : List Int) (hC : IntC w A l) (hc : l.length ≤ c) (hl : l.length ≤ 100) (last : Int) (hw : (Lit.int .u64 last).wf = true) (hx : last ≤ IX) :
    Calls Try.prog 29 #[.agg cs, .slice A l.length c, .int .u64 last] w (TabBool w (news t l last) true) := by
  have hz := zero60
  have HR := Lib.hid h
  have HT := Lib.hid (two_blocks w cs)
  have hq : decide ((1152921504606846976 : Int) < last) = false := by unfold IX at hx; simp; omega
  have hw1 := wrap_i hw (n := IX + 1) (by omega) (Int.le_refl _)
  have HC := Lib.hid hC
  clear h hx hC
  go_enter Try.func29, Try.ntmps29
  go_upto_region 1 with (fail)
  generalize (w.alloc (.cells cs 60)).alloc (.cells Z60 60) = W at HT ⊢
  have R0 : RSet w t l last 0 cs W := ⟨HT.out.1, HT.out.2.1, by rw [mix_zero HR.out.key]; exact HR.out, HT.out.2.2⟩
  go_wp2
  go_loopw [8] (fun i wr => ∃ (k : Nat) (cs' : Array Value), i = .int .i64 k ∧ k ≤ 7 ∧ RSet w t l last k cs' wr) (fun i _ => 7 - (intOf i).toNat)
  case atStart => exact ⟨0, cs, rfl, by omega, R0⟩
  case round =>
    clear R0
    obtain ⟨k, cs', rfl, hk, R⟩ := hrel
    by_cases hlt : k < 7
    · have hlt' : (k : Int) < 7 := by omega
      have HH := Lib.hid ((rhas wr A c l (HC.out.below R.bel) hc hl k).mono (R' := fun e w' => e = .returned (.bool (decide ((k : Int) ∈ l))) ∧ Below wr.heap.size wr w') (fun e w' he => ⟨he.1, by obtain ⟨m, hm⟩ := he.2; rw [hm]; exact drawn_below _ _⟩))
      have HRR := Lib.hid R
      have hms := mix_succ t l last hlt
      have HMS := Lib.hid hms
      have hhas := R.rt.has k hlt
      rw [mix_at] at hhas
      have HHS := Lib.hid hhas
      clear R hms hhas
      rcases hs : t k with _ | x
      · have hz1 : lnz t k = z0 := by simp [lnz, hs]
        rw [hs] at HHS
        have HSK := Lib.hid hs
        have HZ1 := Lib.hid hz1
        clear hs hz1
        by_cases hm : (k : Int) ∈ l
        · have hd : decide ((k : Int) ∈ l) = true := by simpa using hm
          rw [hd] at HH
          have HD := Lib.hid hd
          clear hm hd
          go_wp2_with (first
            | (go_at_call 43; refine HH.out.mono ?_; rintro e w1 ⟨rfl, hb⟩; have R1 := Lib.hid (HRR.out.below hb); have hcell : w1.cell? ⟨w.heap.size, k, none⟩ = some (.bool false) := (blk_cell R1.out.a k).trans HHS.out)
            | ((with_reducible refine rows.wpList_store_mid rfl 57 _ _ rfl w.heap.size (7 + k * 4) (lc z0).toList ?_ ?_ 60 cs' R1.out.a ?_ ?_ ?_ ?_); rfl; rfl; kernel_rfl; (simp [R1.out.rt.size]; omega); exact lc_one _)
            | ((with_reducible refine rows.wpList_store_cell rfl 50 _ _ rfl w.heap.size (7 + k * 4 + 1) (.int .u64 (last + 1)) ?_ ?_ rfl rfl 60 (lput cs' k z0) (setRow_heap _ _ _ _ _ _ R1.out.a) ?_ ?_ ?_); rfl; rfl; kernel_rfl; (rw [rows.size_setMid, R1.out.rt.size]; omega))
            | ((with_reducible refine rows.wpList_store_cell rfl 4 _ _ rfl w.heap.size k (.bool true) ?_ ?_ rfl rfl 60 _ (setRow_heap _ _ _ _ _ _ (setRow_heap _ _ _ _ _ _ R1.out.a)) ?_ ?_ ?_); rfl; rfl; kernel_rfl; (rw [Array.size_setIfInBounds, rows.size_setMid, R1.out.rt.size]; omega)))
          have HN := R1.out.next hlt HD.out (y := nl last) (by rw [HSK.out]; rfl)
          rw [← lput_next z0 (last + 1) (by have := R1.out.rt.size; omega)] at HN
          have HP := Lib.hid (R1.out.put HN)
          rw [setRow_two, setRow_two]
          go_roundw
          case rel => exact ⟨k + 1, _, by go_num, hlt, HP.out⟩
          case measure => simp [intOf]; omega
        · have hd : decide ((k : Int) ∈ l) = false := by simpa using hm
          rw [hd] at HH
          have HD := Lib.hid hd
          clear hm hd
          go_wp2_with (first
            | (go_at_call 43; refine HH.out.mono ?_; rintro e w1 ⟨rfl, hb⟩; have R1 := Lib.hid (HRR.out.below hb); have hcell : w1.cell? ⟨w.heap.size, k, none⟩ = some (.bool false) := (blk_cell R1.out.a k).trans HHS.out)
            | ((with_reducible refine rows.wpList_store_cell rfl 4 _ _ rfl w.heap.size k (.bool false) ?_ ?_ rfl rfl 60 cs' R1.out.a ?_ ?_ ?_); rfl; rfl; kernel_rfl; (rw [R1.out.rt.size]; omega)))
          have HN := R1.out.next hlt HD.out (y := lnz t k) (by rw [HZ1.out]; rfl)
          rw [R1.out.self hlt] at HN
          have HP := Lib.hid (R1.out.put HN)
          go_roundw
          case rel => exact ⟨k + 1, _, by go_num, hlt, HP.out⟩
          case measure => simp [intOf]; omega
      · have hz1 : lnz t k = x := by simp [lnz, hs]
        rw [hs] at HHS
        have HSK := Lib.hid hs
        have HZ1 := Lib.hid hz1
        clear hs hz1
        by_cases hm : (k : Int) ∈ l
        · have hd : decide ((k : Int) ∈ l) = true := by simpa using hm
          rw [hd] at HH
          have HD := Lib.hid hd
          clear hm hd
          go_wp2_with (first
            | (go_at_call 43; refine HH.out.mono ?_; rintro e w1 ⟨rfl, hb⟩; have R1 := Lib.hid (HRR.out.below hb); have hcell : w1.cell? ⟨w.heap.size, k, none⟩ = some (.bool true) := (blk_cell R1.out.a k).trans HHS.out)
            | ((with_reducible refine rows.wpList_store_cell rfl 4 _ _ rfl w.heap.size k (.bool true) ?_ ?_ rfl rfl 60 cs' R1.out.a ?_ ?_ ?_); rfl; rfl; kernel_rfl; (rw [R1.out.rt.size]; omega)))
          have HN := R1.out.next hlt HD.out (y := lnz t k) (by rw [HZ1.out, HSK.out]; rfl)
          rw [R1.out.self hlt] at HN
          have HP := Lib.hid (R1.out.put HN)
          go_roundw
          case rel => exact ⟨k + 1, _, by go_num, hlt, HP.out⟩
          case measure => simp [intOf]; omega
        · have hd : decide ((k : Int) ∈ l) = false := by simpa using hm
          rw [hd] at HH
          have HD := Lib.hid hd
          clear hm hd
          go_wp2_with (first
            | (go_at_call 43; refine HH.out.mono ?_; rintro e w1 ⟨rfl, hb⟩; have R1 := Lib.hid (HRR.out.below hb); have hcell : w1.cell? ⟨w.heap.size, k, none⟩ = some (.bool true) := (blk_cell R1.out.a k).trans HHS.out)
            | ((with_reducible refine rows.wpList_store_mid rfl 57 _ _ rfl w.heap.size (7 + k * 4) (lc z0).toList ?_ ?_ 60 cs' R1.out.a ?_ ?_ ?_ ?_); rfl; rfl; kernel_rfl; (simp [R1.out.rt.size]; omega); exact lc_one _)
            | ((with_reducible refine rows.wpList_store_cell rfl 4 _ _ rfl w.heap.size k (.bool false) ?_ ?_ rfl rfl 60 _ (setRow_heap _ _ _ _ _ _ R1.out.a) ?_ ?_ ?_); rfl; rfl; kernel_rfl; (rw [rows.size_setMid, R1.out.rt.size]; omega)))
          have HN := R1.out.next hlt HD.out (y := z0) rfl
          have HP := Lib.hid (R1.out.put HN)
          rw [setRow_two]
          go_roundw
          case rel => exact ⟨k + 1, _, by go_num, hlt, HP.out⟩
          case measure => simp [intOf]; omega
    · have R7 : RSet w t l last 7 cs' wr := by
        obtain rfl : k = 7 := by omega
        exact R
      have hge : ¬ (k : Int) < 7 := by omega
      have hi := info60 R.rt.size
      have HRR := Lib.hid R7
      clear R R7
      go_wp2_with (first
        | ((with_reducible refine wpList_load_row rfl 60 _ rfl w.heap.size ?_ 60 cs' (0, 0) _ HRR.out.a Try.underlying60 ?_ hi ?_); rfl; rfl)
        | ((with_reducible refine wpList_store_row rfl 60 _ _ rfl (w.heap.size + 1) cs' ?_ ?_ 60 Z60 HRR.out.b hi ?_ HRR.out.rt.one ?_); rfl; rfl; (rw [Z60_size, HRR.out.rt.size])))
      exact ret_row Try.results29 rfl rfl (setRow_heap _ _ _ _ _ _ HRR.out.b) HRR.out.rt.size rfl ⟨cs', rfl, by rw [← mix_all HR.out.key]; exact HRR.out.rt, setRow_below HRR.out.bel (by omega)⟩
end Go.Proofs.Ytibdjmmhdggpfaa

/-
  The document's Heard; its Took, Refused and Heard in one word each.
-/
namespace Go.Proofs.Ytibdjmmhdggpfaa
set_option linter.unusedVariables false
set_option linter.unusedSimpArgs false
open Go.RowKit Go.Maps Go.Proofs.YtibdjmmhdggpfaaW.PrintWords Go.Proofs.YtibdjmmhdggpfaaW.PrintMore Go.Proofs.Ytibdjmmhdggpfaa.PPollPlays Go.Proofs.Ytibdjmmhdggpfaa.pure Go.Proofs.Ytibdjmmhdggpfaa.fmap

theorem set_a {cs : Array Value} {k : Nat} {x : Ln} (h : LnAt cs k x) (hs : 7 + k * 4 + 3 < cs.size) (b : Bool) : cs.setIfInBounds (7 + k * 4 + 3) (.bool b) = lput cs k { x with a := b } := by
  apply Array.ext_getElem?
  intro j
  rw [Array.getElem?_setIfInBounds]
  by_cases e : 7 + k * 4 + 3 = j
  · subst e
    rw [if_pos rfl, if_pos hs, lput_a hs]
  · rw [if_neg e]
    by_cases e0 : j < 7 + k * 4 ∨ 7 + k * 4 + 3 < j
    · rw [lput_get e0]
    · obtain rfl | rfl | rfl : j = 7 + k * 4 ∨ j = 7 + k * 4 + 1 ∨ j = 7 + k * 4 + 2 := by omega
      · rw [lput_m hs, h.m]
      · rw [lput_n hs, h.n]
      · rw [lput_r hs, h.r]
theorem set_r {cs : Array Value} {k : Nat} {x : Ln} (hs : 7 + k * 4 + 3 < cs.size) (r : Int) : (lput cs k x).setIfInBounds (7 + k * 4 + 2) (.int .u64 r) = lput cs k { x with r := r } := by
  have hs2 : (lput cs k x).size = cs.size := rows.size_setMid _ _ _
  apply Array.ext_getElem?
  intro j
  rw [Array.getElem?_setIfInBounds]
  by_cases e : 7 + k * 4 + 2 = j
  · subst e
    rw [if_pos rfl, if_pos (by omega), lput_r hs]
  · rw [if_neg e]
    by_cases e0 : j < 7 + k * 4 ∨ 7 + k * 4 + 3 < j
    · rw [lput_get e0, lput_get e0]
    · obtain rfl | rfl | rfl : j = 7 + k * 4 ∨ j = 7 + k * 4 + 1 ∨ j = 7 + k * 4 + 3 := by omega
      · rw [lput_m hs, lput_m hs]
      · rw [lput_n hs, lput_n hs]
      · rw [lput_a hs, lput_a hs]
set_option maxRecDepth 100000 in
set_option maxHeartbeats 2000000 in
theorem rheard_some (w : World) (cs : Array Value) (t : Tb) (h : RT cs t) (k : Nat) (hk : k < 7) (i : Int) (x : Ln) (hn : t k = some x) : Calls Try.prog 51 #[.agg cs, .int .i64 k, .int .u64 i] w (TabBool w (tput t k (heardx x i)) true) := by
  have HI := fun w => Lib.hid (is_ok w cs t h k)
  rw [hn] at HI
  have hi := info60 h.size
  have hz := zero60
  have HR := Lib.hid h
  have HT := Lib.hid (two_blocks w cs)
  have HL := Lib.hid (h.line hk hn)
  have HN := Lib.hid hn
  have hs3 : 7 + k * 4 + 3 < cs.size := by have := h.size; omega
  have HSA := Lib.hid (set_a HL.out hs3 true)
  clear h hn
  go_enter Try.func51, Try.ntmps51
  go_upto_region 1 with (fail)
  generalize (w.alloc (.cells cs 60)).alloc (.cells Z60 60) = W at HT ⊢
  have HB0 := Lib.hid HT.out.1
  have HB1 := Lib.hid HT.out.2.1
  have hlt := blk_lt HT.out.2.1
  have hlt0 := blk_lt HT.out.1
  go_upto_region 4 with (first
    | ((with_reducible refine wpList_load_row rfl 60 _ rfl w.heap.size ?_ 60 cs (0, 0) _ ?_ Try.underlying60 ?_ hi ?_); rfl; (first | exact HB0.out | exact blk_alloc HB0.out _); rfl)
    | ((with_reducible refine rows.wpList_store_cell rfl 4 _ _ rfl w.heap.size (7 + k * 4 + 3) (.bool true) ?_ ?_ rfl rfl 60 cs (blk_alloc HB0.out _) ?_ hs3 ?_); rfl; rfl; kernel_rfl)
    | (go_at_call 73; refine (HI _).out.mono ?_; rintro e w1 ⟨rfl, rfl⟩))
  have HT2 := Lib.hid (show ((W.alloc (.cells cs 60)).setRow w.heap.size (cs.setIfInBounds (7 + k * 4 + 3) (.bool true))).heap[w.heap.size]? = some (.cells (lput cs k { x with a := true }) 60 (0, 0)) ∧ ((W.alloc (.cells cs 60)).setRow w.heap.size (cs.setIfInBounds (7 + k * 4 + 3) (.bool true))).heap[w.heap.size + 1]? = some (.cells Z60 60 (0, 0)) ∧ Below w.heap.size w ((W.alloc (.cells cs 60)).setRow w.heap.size (cs.setIfInBounds (7 + k * 4 + 3) (.bool true))) from
    ⟨by rw [← HSA.out]; exact setRow_heap _ _ _ _ _ _ (blk_alloc HB0.out _), (setRow_other _ _ _ _ (by omega)).trans (blk_alloc HB1.out _), setRow_below (HT.out.2.2.alloc HT.out.2.2.size _) (Nat.le_refl _)⟩)
  generalize (W.alloc (.cells cs 60)).setRow w.heap.size (cs.setIfInBounds (7 + k * 4 + 3) (.bool true)) = W2 at HT2 ⊢
  have d2 := (blk_cell HT2.out.1 _).trans (lput_r hs3)
  clear hlt hlt0
  rcases Int.lt_or_le x.r i with c1 | c1
  · have HX := Lib.hid (show heardx x i = (⟨x.m, x.n, i, true⟩ : Ln) by unfold heardx; rw [if_pos c1])
    have HSR := Lib.hid (set_r (cs := cs) (k := k) (x := { x with a := true }) hs3 i)
    have HP := Lib.hid (HR.out.put hk (by rw [HN.out]; rfl) (⟨x.m, x.n, i, true⟩ : Ln))
    go_wp2_with (first
      | ((with_reducible refine rows.wpList_store_cell rfl 50 _ _ rfl w.heap.size (7 + k * 4 + 2) (.int .u64 i) ?_ ?_ rfl rfl 60 _ HT2.out.1 ?_ ?_ ?_); rfl; rfl; kernel_rfl; (rw [rows.size_setMid]; omega))
      | ((with_reducible refine wpList_load_row rfl 60 _ rfl w.heap.size ?_ 60 (lput cs k (⟨x.m, x.n, i, true⟩ : Ln)) (0, 0) _ ?_ Try.underlying60 ?_ (info60 HP.out.size) ?_); rfl; (rw [← HSR.out]; exact setRow_heap _ _ _ _ _ _ HT2.out.1); rfl)
      | ((with_reducible refine wpList_store_row rfl 60 _ _ rfl (w.heap.size + 1) (lput cs k (⟨x.m, x.n, i, true⟩ : Ln)) ?_ ?_ 60 Z60 ((setRow_other _ _ _ _ (by omega)).trans HT2.out.2.1) (info60 HP.out.size) ?_ HP.out.one ?_); rfl; rfl; (rw [Z60_size, HP.out.size])))
    exact ret_row Try.results51 rfl rfl (setRow_heap _ _ _ _ _ _ ((setRow_other _ _ _ _ (by omega)).trans HT2.out.2.1)) HP.out.size rfl ⟨_, rfl, by rw [HX.out]; exact HP.out, setRow_below (setRow_below HT2.out.2.2 (Nat.le_refl _)) (by omega)⟩
  · have HX := Lib.hid (show heardx x i = (⟨x.m, x.n, x.r, true⟩ : Ln) by unfold heardx; rw [if_neg (by omega)])
    have HP := Lib.hid (HR.out.put hk (by rw [HN.out]; rfl) (⟨x.m, x.n, x.r, true⟩ : Ln))
    go_wp2_with (first
      | ((with_reducible refine wpList_load_row rfl 60 _ rfl w.heap.size ?_ 60 (lput cs k (⟨x.m, x.n, x.r, true⟩ : Ln)) (0, 0) _ HT2.out.1 Try.underlying60 ?_ (info60 HP.out.size) ?_); rfl; rfl)
      | ((with_reducible refine wpList_store_row rfl 60 _ _ rfl (w.heap.size + 1) (lput cs k (⟨x.m, x.n, x.r, true⟩ : Ln)) ?_ ?_ 60 Z60 HT2.out.2.1 (info60 HP.out.size) ?_ HP.out.one ?_); rfl; rfl; (rw [Z60_size, HP.out.size])))
    exact ret_row Try.results51 rfl rfl (setRow_heap _ _ _ _ _ _ HT2.out.2.1) HP.out.size rfl ⟨_, rfl, by rw [HX.out]; exact HP.out, setRow_below HT2.out.2.2 (by omega)⟩

section
variable (w : World) (cs : Array Value) (t : Tb) (h : RT cs t) (n i : Int)
include h
theorem rtook_ok (ht : TOk t) (hi : (Lit.int .u64 i).wf = true) : Calls Try.prog 53 #[.agg cs, .int .i64 n, .int .u64 i] w (TabBool w (took t n i) (tookb t n i)) := by
  rcases hn : t n with _ | x
  · have := rtook_none w cs t h n i hn
    unfold took tookb
    rw [hn]
    exact this
  · have hk := h.key n (by rw [hn]; rfl)
    obtain ⟨k, rfl⟩ := Int.eq_ofNat_of_zero_le hk.1
    by_cases hx : i ≤ IX
    · have := rtook_some w cs t h k (by omega) i hi x hn hx (ht.ok k x hn)
      unfold took tookb
      rw [hn]
      simp only [hx, if_true, decide_true, Bool.true_and]
      exact this
    · have := rtook_far w cs t h k i x hn hx
      unfold took tookb
      rw [hn]
      simp only [hx, if_false, decide_false, Bool.false_and]
      exact this
theorem rrefused_ok (ht : TOk t) (hi : (Lit.int .u64 i).wf = true) : Calls Try.prog 50 #[.agg cs, .int .i64 n, .int .u64 i] w (TabBool w (refused t n i) (refb t n i)) := by
  rcases hn : t n with _ | x
  · have := rrefused_none w cs t h n i hn
    unfold refused refb
    rw [hn]
    exact this
  · have hk := h.key n (by rw [hn]; rfl)
    obtain ⟨k, rfl⟩ := Int.eq_ofNat_of_zero_le hk.1
    have := rrefused_some w cs t h k (by omega) i hi x hn (ht.ok k x hn) _ rfl
    unfold refused refb
    rw [hn]
    exact this
theorem rheard_ok : Calls Try.prog 51 #[.agg cs, .int .i64 n, .int .u64 i] w (TabBool w (heard t n i) (t n).isSome) := by
  rcases hn : t n with _ | x
  · have := rheard_none w cs t h n i hn
    unfold heard
    rw [hn]
    exact this
  · have hk := h.key n (by rw [hn]; rfl)
    obtain ⟨k, rfl⟩ := Int.eq_ofNat_of_zero_le hk.1
    have := rheard_some w cs t h k (by omega) i x hn
    unfold heard
    rw [hn]
    exact this
end
end Go.Proofs.Ytibdjmmhdggpfaa
