/-
  The reference's state of a poll; insertion sort. No memory.
-/
import Derived.Test.YtibdjmmhdggpfaaPure2
namespace Go.Proofs.Ytibdjmmhdggpfaa.pure
set_option linter.unusedVariables false
set_option linter.unusedSimpArgs false
open Go.RowKit Go.Proofs.YtibdjmmhdggpfaaW.PrintWords Go.Proofs.YtibdjmmhdggpfaaW.PrintMore Go.Proofs.Ytibdjmmhdggpfaa.PPollPlays

theorem filter_sorted {l : List Int} (h : l.Pairwise (· < ·)) (p : Int → Bool) : (l.filter p).Pairwise (· < ·) := List.Pairwise.filter _ h
theorem cnt_who {mem : List Int} (hm : snd mem = true) {said : Int → Int} (h : Ok mem said) {what : Int} (hw : what ≠ 0) : cnt mem (who said what) = (who said what).length := by
  unfold cnt
  congr 1
  refine sorted_ext (filter_sorted ((snd_iff mem).1 hm).2.1 _) (rowp_sorted _) (fun x => ?_)
  rw [List.mem_filter, decide_eq_true_eq]
  exact ⟨fun h => h.2, fun hx => ⟨h.mem x (by rw [(mem_who.1 hx).2]; exact hw), hx⟩⟩
theorem length_split (l s : List Int) : (l.filter (fun x => !decide (x ∈ s))).length + cnt l s = l.length := by
  unfold cnt
  induction l with
  | nil => rfl
  | cons x l ih =>
    by_cases e : x ∈ s
    · rw [List.filter_cons_of_neg (by simpa using e), List.filter_cons_of_pos (by simpa using e)]
      simp only [List.length_cons]
      omega
    · rw [List.filter_cons_of_pos (by simpa using e), List.filter_cons_of_neg (by simpa using e)]
      simp only [List.length_cons]
      omega
theorem cnt_filter (l : List Int) (p : Int → Bool) : cnt l (l.filter p) = (l.filter p).length := by
  unfold cnt
  congr 1
  refine List.filter_congr fun x hx => ?_
  simp [List.mem_filter, hx]

theorem rstate_from (mem no yes : List Int) (hl : mem.length ≤ 7) (hn : no.length ≤ 7) : ∀ (d k i : Nat) (acc : List Int), i + d = mem.length → d + 40 ≤ k → acc.length ≤ i →
    curfewref32_State.l0 k acc i mem yes no = some (if snd mem && decide (2 * (cnt mem (acc ++ (mem.drop i).filter (fun x => !decide (x ∈ no))) : Int) > (mem.length : Int)) then 1 else 3)
  | 0, k, i, acc, hi, hk, ha => by
    obtain ⟨k, rfl⟩ : ∃ m, k = m + 1 := ⟨k - 1, by omega⟩
    simp only [curfewref32_State.l0]
    rw [if_neg (by omega), List.drop_eq_nil_of_le (by omega), reached_eq mem acc (by omega) (by omega) k (by omega)]
    simp only [Option.bind_some, List.filter_nil, List.append_nil]
    split <;> rfl
  | d + 1, k, i, acc, hi, hk, ha => by
    obtain ⟨k, rfl⟩ : ∃ m, k = m + 1 := ⟨k - 1, by omega⟩
    simp only [curfewref32_State.l0]
    rw [if_pos (by omega), if_pos (by omega), rd_nat mem i (by omega), has_eq no _ (by omega) k (by omega), List.drop_eq_getElem_cons (by omega : i < mem.length)]
    simp only [Option.bind_some, decide_eq_true_eq]
    by_cases e : mem[i] ∈ no
    · rw [if_pos e, wrap_succ i (by omega), rstate_from mem no yes hl hn d k (i + 1) acc (by omega) (by omega) (by omega), List.filter_cons_of_neg (by simpa using e)]
    · rw [if_neg e, if_pos (by omega), wrap_succ i (by omega), rstate_from mem no yes hl hn d k (i + 1) _ (by omega) (by omega) (by simp; omega), List.filter_cons_of_pos (by simpa using e)]
      simp
theorem quo_snd {mem : List Int} (hm : snd mem = true) : quo mem = (mem.length : Int) / 2 + 1 := by unfold quo; rw [if_pos hm]
theorem rstate_eq (mem : List Int) (hm : snd mem = true) (said : Int → Int) (h : Ok mem said) (k : Nat) (hk : 60 ≤ k) : curfewref32_State.f k mem (who said 1) (who said 2) = some (state mem said) := by
  have hl := (snd_length hm).2
  have l1 := who_len said 1
  have l2 := who_len said 2
  have hq := quo_snd hm
  unfold curfewref32_State.f state
  rw [reached_eq mem _ (by omega) (by omega) k (by omega), cnt_who hm h (by decide)]
  simp only [Option.bind_some, hm, Bool.true_and, decide_eq_true_eq]
  by_cases e : quo mem ≤ (who said 1).length
  · rw [if_pos e, if_pos (by omega)]
  · rw [if_neg e, if_neg (by omega)]
    have hf := rstate_from mem (who said 2) (who said 1) hl l2 mem.length k 0 [] (by omega) (by omega) (by simp)
    have hf' : curfewref32_State.l0 k [] 0 mem (who said 1) (who said 2) = _ := hf
    rw [hf']
    simp only [List.nil_append, List.drop_zero, hm, Bool.true_and, decide_eq_true_eq]
    rw [cnt_filter]
    have hs := length_split mem (who said 2)
    rw [cnt_who hm h (by decide)] at hs
    by_cases e2 : (mem.length : Int) - (who said 2).length < quo mem
    · rw [if_pos e2, if_neg (by omega)]
    · rw [if_neg e2, if_pos (by omega)]

/-! ### Insertion sort -/
/-- The first n places, but for a pair with j on the right, are in order. -/
def Sorted (l : List Int) (n j : Nat) : Prop := ∀ p q (_ : p < q), q < n → q ≠ j → ∀ h : q < l.length, l[p]'(by omega) ≤ l[q]
/-- The first n places are in order. -/
def SortedTo (l : List Int) (n : Nat) : Prop := ∀ p q (_ : p < q), q < n → ∀ h : q < l.length, l[p]'(by omega) ≤ l[q]

theorem less_eq (a b : Int) : cmp_Less_int.f a b = some (decide (a < b)) := by
  unfold cmp_Less_int.f cmp_isNaN_int.f
  simp
theorem swap_perm (l : List Int) (j : Nat) (h : j < l.length) (h0 : 0 < j) : ((l.set j (l[j - 1]'(by omega))).set (j - 1) l[j]).Perm l := by
  have e := List.set_set_perm (i := j) (j := j - 1) h (by omega)
  exact e

theorem sort_rounds (N : Nat) (hN : N ≤ 12) : ∀ (m : Nat),
    (∀ (l : List Int) (i : Nat), l.length = N → i ≤ N → SortedTo l i → (N - i) * 30 ≤ m → ∃ K r, (∀ k, K ≤ k → slices_insertionSortOrdered_int.l0 k l 0 N i = some r) ∧ SortedTo r N ∧ r.Perm l) ∧
    (∀ (l : List Int) (i j : Nat), l.length = N → i < N → j ≤ i → Sorted l (i + 1) j → (N - i - 1) * 30 + 15 + j ≤ m → ∃ K r, (∀ k, K ≤ k → slices_insertionSortOrdered_int.l1 k l 0 N i j = some r) ∧ SortedTo r N ∧ r.Perm l)
  | 0 => by
    refine ⟨fun l i hl hi hs hm => ⟨1, l, fun k hk => ?_, ?_, List.Perm.refl _⟩, fun l i j hl hi hj hs hm => absurd hm (by omega)⟩
    · obtain ⟨k, rfl⟩ : ∃ m, k = m + 1 := ⟨k - 1, by omega⟩
      simp only [slices_insertionSortOrdered_int.l0]
      rw [if_neg (by omega)]
    · intro p q hpq hq h
      exact hs p q hpq (by omega) h
  | m + 1 => by
    obtain ⟨ih0, ih1⟩ := sort_rounds N hN m
    constructor
    · intro l i hl hi hs hm
      by_cases e : i < N
      · obtain ⟨K, r, hr, h1, h2⟩ := ih1 l i i hl e (Nat.le_refl _) (fun p q hpq hq hne h => hs p q hpq (by omega) h) (by omega)
        refine ⟨K + 1, r, fun k hk => ?_, h1, h2⟩
        obtain ⟨k, rfl⟩ : ∃ m, k = m + 1 := ⟨k - 1, by omega⟩
        simp only [slices_insertionSortOrdered_int.l0]
        rw [if_pos (by omega)]
        exact hr k (by omega)
      · refine ⟨1, l, fun k hk => ?_, ?_, List.Perm.refl _⟩
        · obtain ⟨k, rfl⟩ : ∃ m, k = m + 1 := ⟨k - 1, by omega⟩
          simp only [slices_insertionSortOrdered_int.l0]
          rw [if_neg (by omega)]
        · intro p q hpq hq h
          exact hs p q hpq (by omega) h
    · intro l i j hl hi hj hs hm
      have hjl : j < l.length := by omega
      by_cases e0 : 0 < j
      · have ej : wrap64 ((j : Int) - 1) = ((j - 1 : Nat) : Int) := by unfold wrap64; omega
        by_cases hlt : l[j] < l[j - 1]'(by omega)
        · -- the two change places
          have hp := swap_perm l j hjl e0
          have hget : ∀ p (h : p < l.length), ((l.set j (l[j - 1]'(by omega))).set (j - 1) l[j])[p]'(by simpa using h) = if p = j - 1 then l[j] else if p = j then l[j - 1]'(by omega) else l[p] := by
            intro p h
            rw [List.getElem_set, List.getElem_set]
            by_cases a : p = j - 1
            · subst a
              simp
            · by_cases b : p = j
              · subst b
                have : ¬ p - 1 = p := by omega
                simp [this, a]
              · have a' : ¬ j - 1 = p := fun e => a e.symm
                have b' : ¬ j = p := fun e => b e.symm
                simp [a, b, a', b']
          have hs' : Sorted ((l.set j (l[j - 1]'(by omega))).set (j - 1) l[j]) (i + 1) (j - 1) := by
            intro p q hpq hq hne h
            have hq' : q < l.length := by simpa using h
            rw [hget p (by omega), hget q hq']
            rw [if_neg hne]
            by_cases b : q = j
            · rw [if_pos b]
              by_cases a : p = j - 1
              · rw [if_pos a]
                omega
              · rw [if_neg a, if_neg (by omega)]
                exact hs p (j - 1) (by omega) (by omega) (by omega) (by omega)
            · rw [if_neg b]
              by_cases a : p = j - 1
              · rw [if_pos a]
                exact hs j q (by omega) hq b hq'
              · rw [if_neg a]
                by_cases c : p = j
                · rw [if_pos c]
                  exact hs (j - 1) q (by omega) hq b hq'
                · rw [if_neg c]
                  exact hs p q hpq hq b hq'
          obtain ⟨K, r, hr, h1, h2⟩ := ih1 _ i (j - 1) (by simpa using hl) hi (by omega) hs' (by omega)
          refine ⟨K + 1, r, fun k hk => ?_, h1, h2.trans hp⟩
          obtain ⟨k, rfl⟩ : ∃ m, k = m + 1 := ⟨k - 1, by omega⟩
          simp only [slices_insertionSortOrdered_int.l1]
          rw [if_pos (by omega), if_pos (by omega), if_pos (by omega), ej, if_pos (by omega), if_pos (by omega), rd_nat l j hjl, rd_nat l (j - 1) (by omega), less_eq]
          simp only [Option.bind_some, hlt, decide_true, ↓reduceIte, Int.toNat_natCast]
          exact hr k (by omega)
        · have hs' : SortedTo l (i + 1) := by
            intro p q hpq hq h
            by_cases b : q = j
            · subst b
              by_cases a : p = q - 1
              · subst a
                omega
              · have := hs p (q - 1) (by omega) (by omega) (by omega) (by omega)
                omega
            · exact hs p q hpq hq b h
          obtain ⟨K, r, hr, h1, h2⟩ := ih0 l (i + 1) hl (by omega) hs' (by omega)
          refine ⟨K + 1, r, fun k hk => ?_, h1, h2⟩
          obtain ⟨k, rfl⟩ : ∃ m, k = m + 1 := ⟨k - 1, by omega⟩
          simp only [slices_insertionSortOrdered_int.l1]
          rw [if_pos (by omega), if_pos (by omega), if_pos (by omega), ej, if_pos (by omega), if_pos (by omega), rd_nat l j hjl, rd_nat l (j - 1) (by omega), less_eq]
          simp only [Option.bind_some, hlt, decide_false, Bool.false_eq_true, ↓reduceIte]
          rw [wrap_succ i (by omega)]
          exact hr k (by omega)
      · have hs' : SortedTo l (i + 1) := by
          intro p q hpq hq h
          exact hs p q hpq hq (by omega) h
        obtain ⟨K, r, hr, h1, h2⟩ := ih0 l (i + 1) hl (by omega) hs' (by omega)
        refine ⟨K + 1, r, fun k hk => ?_, h1, h2⟩
        obtain ⟨k, rfl⟩ : ∃ m, k = m + 1 := ⟨k - 1, by omega⟩
        simp only [slices_insertionSortOrdered_int.l1]
        rw [if_neg (by omega), wrap_succ i (by omega)]
        exact hr k (by omega)

theorem sort_eq (l : List Int) (hl : l.length ≤ 12) : ∃ k r, slices_insertionSortOrdered_int.f k l 0 l.length = some r ∧ r.Pairwise (· ≤ ·) ∧ r.Perm l := by
  by_cases h0 : l = []
  · subst h0
    exact ⟨1, [], by simp [slices_insertionSortOrdered_int.f, slices_insertionSortOrdered_int.l0, wrap64], List.Pairwise.nil, List.Perm.refl _⟩
  have hpos : 0 < l.length := List.length_pos_iff.2 h0
  obtain ⟨K, r, hr, h1, h2⟩ := (sort_rounds l.length hl (l.length * 30)).1 l 1 rfl hpos (fun p q hpq hq h => by omega) (by omega)
  refine ⟨K, r, ?_, ?_, h2⟩
  · unfold slices_insertionSortOrdered_int.f
    have e : wrap64 (0 + 1) = ((1 : Nat) : Int) := by unfold wrap64; omega
    rw [e]
    exact hr K (Nat.le_refl _)
  · rw [List.pairwise_iff_getElem]
    intro p q hp hq hpq
    exact h1 p q hpq (by rw [← h2.length_eq]; exact hq) hq
/-- A list of nodes, none twice, sorted: a row. -/
theorem sorted_row {l r : List Int} (hs : r.Pairwise (· ≤ ·)) (hp : r.Perm l) (hn : l.Nodup) (p : Int → Bool) (h : ∀ x, x ∈ l ↔ (0 ≤ x ∧ x ≤ 6) ∧ p x = true) : r = rowp p := by
  have hrn : r.Nodup := hp.nodup_iff.2 hn
  refine sorted_ext (List.Pairwise.imp_of_mem ?_ (List.pairwise_and_iff.2 ⟨hs, hrn⟩)) (rowp_sorted _) (fun x => ?_)
  · intro a b _ _ ⟨h1, h2⟩
    omega
  · rw [hp.mem_iff, h, mem_rowp]
end Go.Proofs.Ytibdjmmhdggpfaa.pure
