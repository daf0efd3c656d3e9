/-
  What the plain functions of member and of the references compute, on lists of numbers. No memory.
-/
import Derived.Test.YtibdjmmhdggpfaaPPollPlaysx1
import Derived.Test.YtibdjmmhdggpfaaPPollPlaysx2
import Derived.Test.YtibdjmmhdggpfaaPPollPlaysx8
import Derived.Test.YtibdjmmhdggpfaaPPollPlaysx9
namespace Go.Proofs.Ytibdjmmhdggpfaa.pure
set_option linter.unusedVariables false
set_option linter.unusedSimpArgs false
open Go.RowKit Go.Proofs.YtibdjmmhdggpfaaW.PrintWords Go.Proofs.Ytibdjmmhdggpfaa.PPollPlays

/-- All nodes. -/
def nodes : List Int := [0, 1, 2, 3, 4, 5, 6]
/-- Those nodes of which p says so, rising. -/
def rowp (p : Int → Bool) : List Int := nodes.filter p
/-- Is it a row of members? -/
def snd (l : List Int) : Bool := decide (0 < l.length ∧ l = rowp (fun x => decide (x ∈ l)))

theorem wrap_succ (i : Nat) (h : i ≤ 9223372036854775806) : wrap64 ((i : Int) + 1) = ((i + 1 : Nat) : Int) := by unfold wrap64; omega
theorem rd_nat (l : List Int) (i : Nat) (h : i < l.length) : rd l (i : Int) = l[i] := by simp [rd, List.getD, h]

theorem mem_nodes {x : Int} : x ∈ nodes ↔ 0 ≤ x ∧ x ≤ 6 := by
  unfold nodes
  simp only [List.mem_cons, List.not_mem_nil, or_false]
  omega
theorem mem_rowp {p : Int → Bool} {x : Int} : x ∈ rowp p ↔ (0 ≤ x ∧ x ≤ 6) ∧ p x = true := by
  unfold rowp
  rw [List.mem_filter, mem_nodes]
theorem rowp_sorted (p : Int → Bool) : (rowp p).Pairwise (· < ·) := List.Pairwise.filter _ (by unfold nodes; decide)
theorem rowp_length (p : Int → Bool) : (rowp p).length ≤ 7 := by
  unfold rowp
  exact Nat.le_trans (List.length_filter_le _ _) (by decide)
theorem rowp_congr {p q : Int → Bool} (h : ∀ x, 0 ≤ x → x ≤ 6 → p x = q x) : rowp p = rowp q :=
  List.filter_congr fun x hx => h x (mem_nodes.1 hx).1 (mem_nodes.1 hx).2

/-- Two rising lists with the same members are one. -/
theorem sorted_ext : ∀ {l m : List Int}, l.Pairwise (· < ·) → m.Pairwise (· < ·) → (∀ x, x ∈ l ↔ x ∈ m) → l = m
  | [], [], _, _, _ => rfl
  | [], y :: m, _, _, h => absurd ((h y).2 (by simp)) (by simp)
  | x :: l, [], _, _, h => absurd ((h x).1 (by simp)) (by simp)
  | x :: l, y :: m, hl, hm, h => by
    obtain ⟨h1, h2⟩ := List.pairwise_cons.1 hl
    obtain ⟨k1, k2⟩ := List.pairwise_cons.1 hm
    have e : x = y := by
      have a1 := (h x).1 (by simp)
      have a2 := (h y).2 (by simp)
      rcases List.mem_cons.1 a1 with e | a1
      · exact e
      · rcases List.mem_cons.1 a2 with e | a2
        · exact e.symm
        · have := h1 y a2
          have := k1 x a1
          omega
    subst e
    congr 1
    refine sorted_ext h2 k2 (fun z => ?_)
    have hz := h z
    simp only [List.mem_cons] at hz
    constructor
    · intro hzl
      rcases hz.1 (.inr hzl) with e | e
      · subst e
        exact absurd (h1 z hzl) (by omega)
      · exact e
    · intro hzm
      rcases hz.2 (.inr hzm) with e | e
      · subst e
        exact absurd (k1 z hzm) (by omega)
      · exact e

theorem snd_iff (l : List Int) : snd l = true ↔ l ≠ [] ∧ l.Pairwise (· < ·) ∧ ∀ x ∈ l, 0 ≤ x ∧ x ≤ 6 := by
  unfold snd
  rw [decide_eq_true_eq]
  constructor
  · rintro ⟨h0, h⟩
    refine ⟨by intro e; simp [e] at h0, ?_, fun x hx => ?_⟩
    · rw [h]
      exact rowp_sorted _
    · rw [h] at hx
      exact (mem_rowp.1 hx).1
  · rintro ⟨h0, h1, h2⟩
    refine ⟨List.length_pos_iff.2 h0, sorted_ext h1 (rowp_sorted _) (fun x => ?_)⟩
    rw [mem_rowp]
    constructor
    · intro hx
      exact ⟨h2 x hx, by simpa using hx⟩
    · rintro ⟨_, hx⟩
      simpa using hx
theorem snd_length {l : List Int} (h : snd l = true) : 1 ≤ l.length ∧ l.length ≤ 7 := by
  unfold snd at h
  rw [decide_eq_true_eq] at h
  refine ⟨h.1, ?_⟩
  rw [h.2]
  exact rowp_length _
theorem snd_row {l : List Int} (h : snd l = true) : l = rowp (fun x => decide (x ∈ l)) := by
  unfold snd at h
  rw [decide_eq_true_eq] at h
  exact h.2

/-! ### Contains -/
theorem has_from (l : List Int) (n : Int) (hl : l.length ≤ 140737488351232) : ∀ (d k i : Nat), i + d = l.length → d < k → curfewref29_Has.l0 k l n i = some (decide (n ∈ l.drop i))
  | 0, k, i, hi, hk => by
    obtain ⟨k, rfl⟩ : ∃ m, k = m + 1 := ⟨k - 1, by omega⟩
    simp only [curfewref29_Has.l0]
    rw [if_neg (by omega), List.drop_eq_nil_of_le (by omega)]
    simp
  | d + 1, k, i, hi, hk => by
    obtain ⟨k, rfl⟩ : ∃ m, k = m + 1 := ⟨k - 1, by omega⟩
    simp only [curfewref29_Has.l0]
    rw [if_pos (by omega), if_pos (by omega), rd_nat l i (by omega), List.drop_eq_getElem_cons (by omega : i < l.length)]
    by_cases e : l[i] = n
    · rw [if_pos e, e]
      simp
    · rw [if_neg e, wrap_succ i (by omega), has_from l n hl d k (i + 1) (by omega) (by omega)]
      have e' : ¬ n = l[i] := fun h => e h.symm
      simp only [List.mem_cons, e', false_or]
theorem has_eq (l : List Int) (n : Int) (hl : l.length ≤ 140737488351232) (k : Nat) (hk : l.length < k) : curfewref29_Has.f k l n = some (decide (n ∈ l)) := by
  unfold curfewref29_Has.f
  have := has_from l n hl l.length k 0 (by omega) hk
  simpa using this

theorem index_from (l : List Int) (n : Int) (hl : l.length ≤ 140737488351232) : ∀ (d k i : Nat), i + d = l.length → d < k →
    ∃ r : Int, slices_Index_int_int.l0 k l n (l.length : Int) i = some r ∧ (0 ≤ r ↔ n ∈ l.drop i)
  | 0, k, i, hi, hk => by
    obtain ⟨k, rfl⟩ : ∃ m, k = m + 1 := ⟨k - 1, by omega⟩
    simp only [slices_Index_int_int.l0]
    rw [if_neg (by omega), List.drop_eq_nil_of_le (by omega)]
    exact ⟨-1, rfl, by simp⟩
  | d + 1, k, i, hi, hk => by
    obtain ⟨k, rfl⟩ : ∃ m, k = m + 1 := ⟨k - 1, by omega⟩
    simp only [slices_Index_int_int.l0]
    rw [if_pos (by omega), if_pos (by omega), if_pos (by omega), rd_nat l i (by omega), List.drop_eq_getElem_cons (by omega : i < l.length)]
    by_cases e : n = l[i]
    · rw [if_pos e]
      exact ⟨i, rfl, by simp only [List.mem_cons]; exact ⟨fun _ => .inl e, fun _ => by omega⟩⟩
    · rw [if_neg e, wrap_succ i (by omega)]
      obtain ⟨r, hr, h⟩ := index_from l n hl d k (i + 1) (by omega) (by omega)
      exact ⟨r, hr, by rw [h]; simp only [List.mem_cons, e, false_or]⟩
theorem mhas_eq (l : List Int) (n : Int) (hl : l.length ≤ 140737488351232) (k : Nat) (hk : l.length < k) : member_Has.f k l n = some (decide (n ∈ l)) := by
  obtain ⟨r, hr, h⟩ := index_from l n hl l.length k 0 (by omega) hk
  have hr' : slices_Index_int_int.l0 k l n (l.length : Int) 0 = some r := hr
  unfold member_Has.f slices_Contains_int_int.f slices_Index_int_int.f
  rw [hr']
  simp only [Option.bind_some, Option.some.injEq]
  simp only [List.drop_zero] at h
  by_cases e : n ∈ l
  · simp [e, h.2 e]
  · have : ¬ 0 ≤ r := fun h' => e (h.1 h')
    simp [e]
    omega

/-! ### Same -/
theorem equal_from (l m : List Int) (hm : l.length = m.length) (hl : l.length ≤ 140737488351232) : ∀ (d k i : Nat), i + d = l.length → d < k → slices_Equal_int_int.l0 k l m (l.length : Int) i = some (decide (l.drop i = m.drop i))
  | 0, k, i, hi, hk => by
    obtain ⟨k, rfl⟩ : ∃ m, k = m + 1 := ⟨k - 1, by omega⟩
    simp only [slices_Equal_int_int.l0]
    rw [if_neg (by omega), List.drop_eq_nil_of_le (by omega), List.drop_eq_nil_of_le (by omega)]
    simp
  | d + 1, k, i, hi, hk => by
    obtain ⟨k, rfl⟩ : ∃ m, k = m + 1 := ⟨k - 1, by omega⟩
    simp only [slices_Equal_int_int.l0]
    rw [if_pos (by omega), if_pos (by omega), if_pos (by omega), if_pos (by omega), rd_nat l i (by omega), rd_nat m i (by omega), List.drop_eq_getElem_cons (by omega : i < l.length), List.drop_eq_getElem_cons (by omega : i < m.length)]
    by_cases e : l[i] = m[i]
    · rw [if_pos e, wrap_succ i (by omega), equal_from l m hm hl d k (i + 1) (by omega) (by omega)]
      simp only [List.cons.injEq, e, true_and]
    · rw [if_neg e]
      simp only [List.cons.injEq, e, false_and, decide_false]
theorem same_eq (l m : List Int) (hl : l.length ≤ 140737488351232) (k : Nat) (hk : l.length < k) : member_Same.f k l m = some (decide (l = m)) := by
  unfold member_Same.f slices_Equal_int_int.f
  by_cases h : l.length = m.length
  · rw [if_pos (by omega)]
    have := equal_from l m h hl l.length k 0 (by omega) hk
    have e : slices_Equal_int_int.l0 k l m (l.length : Int) 0 = some (decide (l = m)) := by simpa using this
    rw [e]
    rfl
  · rw [if_neg (by omega)]
    have : l ≠ m := fun e => h (by rw [e])
    simp [this]
theorem rsame_from (l m : List Int) (hm : l.length = m.length) (hl : l.length ≤ 140737488351232) : ∀ (d k i : Nat), i + d = l.length → d < k → curfewref29_Same.l0 k l m i = some (decide (l.drop i = m.drop i))
  | 0, k, i, hi, hk => by
    obtain ⟨k, rfl⟩ : ∃ m, k = m + 1 := ⟨k - 1, by omega⟩
    simp only [curfewref29_Same.l0]
    rw [if_neg (by omega), List.drop_eq_nil_of_le (by omega), List.drop_eq_nil_of_le (by omega)]
    simp
  | d + 1, k, i, hi, hk => by
    obtain ⟨k, rfl⟩ : ∃ m, k = m + 1 := ⟨k - 1, by omega⟩
    simp only [curfewref29_Same.l0]
    rw [if_pos (by omega), if_pos (by omega), if_pos (by omega), rd_nat l i (by omega), rd_nat m i (by omega), List.drop_eq_getElem_cons (by omega : i < l.length), List.drop_eq_getElem_cons (by omega : i < m.length)]
    by_cases e : l[i] = m[i]
    · rw [if_pos e, wrap_succ i (by omega), rsame_from l m hm hl d k (i + 1) (by omega) (by omega)]
      simp only [List.cons.injEq, e, true_and]
    · rw [if_neg e]
      simp only [List.cons.injEq, e, false_and, decide_false]
theorem rsame_eq (l m : List Int) (hl : l.length ≤ 140737488351232) (k : Nat) (hk : l.length < k) : curfewref29_Same.f k l m = some (decide (l = m)) := by
  unfold curfewref29_Same.f
  by_cases h : l.length = m.length
  · rw [if_pos (by omega)]
    have := rsame_from l m h hl l.length k 0 (by omega) hk
    simpa using this
  · rw [if_neg (by omega)]
    have : l ≠ m := fun e => h (by rw [e])
    simp [this]

/-! ### Members -/
/-- Rising, from place i on, and each a node's number. -/
def goodFrom (l : List Int) (i : Nat) : Prop := ∀ j, i ≤ j → ∀ h : j < l.length, (0 ≤ l[j] ∧ l[j] ≤ 6) ∧ (∀ h0 : 0 < j, l[j - 1]'(by omega) < l[j])
theorem members_from (l : List Int) (hl : l.length ≤ 7) : ∀ (d k i : Nat), i + d = l.length → d < k → ∃ r, curfewref27_Members.l0 k l i = some r ∧ (r = true ↔ goodFrom l i)
  | 0, k, i, hi, hk => by
    obtain ⟨k, rfl⟩ : ∃ m, k = m + 1 := ⟨k - 1, by omega⟩
    simp only [curfewref27_Members.l0]
    rw [if_neg (by omega)]
    exact ⟨true, rfl, by simp; intro j hj h; omega⟩
  | d + 1, k, i, hi, hk => by
    obtain ⟨k, rfl⟩ : ∃ m, k = m + 1 := ⟨k - 1, by omega⟩
    simp only [curfewref27_Members.l0]
    have hlt : i < l.length := by omega
    rw [if_pos (by omega), if_pos (by omega), rd_nat l i hlt]
    by_cases h0 : l[i] < 0
    · rw [if_pos h0]
      exact ⟨false, rfl, by simp; intro h; have := (h i (Nat.le_refl _) hlt).1; omega⟩
    rw [if_neg h0]
    by_cases h6 : l[i] > 6
    · rw [if_pos h6]
      exact ⟨false, rfl, by simp; intro h; have := (h i (Nat.le_refl _) hlt).1; omega⟩
    rw [if_neg h6]
    obtain ⟨r, hr, h⟩ := members_from l hl d k (i + 1) (by omega) (by omega)
    by_cases hi0 : (i : Int) > 0
    · have e1 : wrap64 ((i : Int) - 1) = ((i - 1 : Nat) : Int) := by unfold wrap64; omega
      rw [if_pos hi0, e1, if_pos (by omega), if_pos (by omega), rd_nat l (i - 1) (by omega)]
      by_cases hle : l[i] ≤ l[i - 1]
      · rw [if_pos hle]
        exact ⟨false, rfl, by simp; intro h; have := (h i (Nat.le_refl _) hlt).2 (by omega); omega⟩
      · rw [if_neg hle, wrap_succ i (by omega)]
        refine ⟨r, hr, h.trans ⟨fun g j hj hjl => ?_, fun g j hj hjl => g j (by omega) hjl⟩⟩
        by_cases e : j = i
        · subst e
          exact ⟨by omega, fun _ => by omega⟩
        · exact g j (by omega) hjl
    · rw [if_neg hi0, wrap_succ i (by omega)]
      refine ⟨r, hr, h.trans ⟨fun g j hj hjl => ?_, fun g j hj hjl => g j (by omega) hjl⟩⟩
      by_cases e : j = i
      · subst e
        exact ⟨by omega, fun _ => by omega⟩
      · exact g j (by omega) hjl
theorem good_iff (l : List Int) : goodFrom l 0 ↔ l.Pairwise (· < ·) ∧ ∀ x ∈ l, 0 ≤ x ∧ x ≤ 6 := by
  constructor
  · intro h
    refine ⟨?_, fun x hx => ?_⟩
    · rw [List.pairwise_iff_getElem]
      have key : ∀ (d i : Nat) (hi : i < l.length) (hd : i + d + 1 < l.length), l[i] < l[i + d + 1] := by
        intro d
        induction d with
        | zero =>
          intro i hi hd
          have := (h (i + 1) (by omega) hd).2 (by omega)
          simpa using this
        | succ d ih =>
          intro i hi hd
          have a := ih i hi (by omega)
          have b := (h (i + (d + 1) + 1) (by omega) hd).2 (by omega)
          have e : l[i + (d + 1) + 1 - 1]'(by omega) = l[i + d + 1]'(by omega) := by congr 1
          rw [e] at b
          omega
      intro i j hi hj hij
      have := key (j - i - 1) i hi (by omega)
      have e : l[i + (j - i - 1) + 1]'(by omega) = l[j] := by congr 1; omega
      rw [e] at this
      exact this
    · obtain ⟨i, hi, rfl⟩ := List.getElem_of_mem hx
      exact (h i (by omega) hi).1
  · rintro ⟨h1, h2⟩ j _ hj
    refine ⟨h2 _ (List.getElem_mem hj), fun h0 => ?_⟩
    rw [List.pairwise_iff_getElem] at h1
    exact h1 (j - 1) j (by omega) hj (by omega)
theorem members_eq (l : List Int) (k : Nat) (hk : 12 ≤ k) : curfewref27_Members.f k l = some (snd l) := by
  obtain ⟨k, rfl⟩ : ∃ m, k = m + 1 := ⟨k - 1, by omega⟩
  unfold curfewref27_Members.f
  by_cases h1 : (l.length : Int) < 1
  · rw [if_pos h1]
    simp only [curfewref27_Members.j0, ↓reduceIte]
    have : snd l = false := by
      unfold snd
      simp
      omega
    rw [this]
  · rw [if_neg h1]
    by_cases h7 : (l.length : Int) > 7
    · simp only [curfewref27_Members.j0, h7, decide_true, ↓reduceIte]
      cases hs : snd l with
      | false => rfl
      | true => exact absurd (snd_length hs).2 (by omega)
    · simp only [curfewref27_Members.j0, h7, decide_false, Bool.false_eq_true, ↓reduceIte]
      obtain ⟨r, hr, h⟩ := members_from l (by omega) l.length k 0 (by omega) (by omega)
      have hr' : curfewref27_Members.l0 k l 0 = some r := hr
      rw [hr']
      congr 1
      rw [Bool.eq_iff_iff, h, good_iff, snd_iff]
      constructor
      · intro h
        exact ⟨by intro e; simp [e] at h1, h⟩
      · exact fun h => h.2
theorem rsound_eq (l : List Int) (k : Nat) (hk : 12 ≤ k) : curfewref29_Sound.f k l = some (snd l) := by
  unfold curfewref29_Sound.f
  rw [members_eq l k hk]
  rfl
end Go.Proofs.Ytibdjmmhdggpfaa.pure
