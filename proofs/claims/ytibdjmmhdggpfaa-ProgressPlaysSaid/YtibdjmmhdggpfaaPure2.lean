/-
  Sets of nodes as bits, rows, quorums, what a poll is; and that insertion sorts. No memory.
-/
import Derived.Test.YtibdjmmhdggpfaaPure
namespace Go.Proofs.Ytibdjmmhdggpfaa.pure
set_option linter.unusedVariables false
set_option linter.unusedSimpArgs false
open Go.RowKit Go.Proofs.YtibdjmmhdggpfaaW.PrintWords Go.Proofs.YtibdjmmhdggpfaaW.PrintMore Go.Proofs.Ytibdjmmhdggpfaa.PPollPlays

/-- The bits that stand for a set of nodes. -/
def msk7 (b0 b1 b2 b3 b4 b5 b6 : Bool) : Int := (if b0 then 1 else 0) + (if b1 then 2 else 0) + (if b2 then 4 else 0) + (if b3 then 8 else 0) + (if b4 then 16 else 0) + (if b5 then 32 else 0) + (if b6 then 64 else 0)
def msk (p : Int → Bool) : Int := msk7 (p 0) (p 1) (p 2) (p 3) (p 4) (p 5) (p 6)

theorem node_cases {x : Int} (h0 : 0 ≤ x) (h6 : x ≤ 6) : x = 0 ∨ x = 1 ∨ x = 2 ∨ x = 3 ∨ x = 4 ∨ x = 5 ∨ x = 6 := by omega

theorem or0 : ∀ b0 b1 b2 b3 b4 b5 b6, bits .or .u64 (msk7 b0 b1 b2 b3 b4 b5 b6) (shl .u64 1 0) = msk7 true b1 b2 b3 b4 b5 b6 := by decide +kernel
theorem or1 : ∀ b0 b1 b2 b3 b4 b5 b6, bits .or .u64 (msk7 b0 b1 b2 b3 b4 b5 b6) (shl .u64 1 1) = msk7 b0 true b2 b3 b4 b5 b6 := by decide +kernel
theorem or2 : ∀ b0 b1 b2 b3 b4 b5 b6, bits .or .u64 (msk7 b0 b1 b2 b3 b4 b5 b6) (shl .u64 1 2) = msk7 b0 b1 true b3 b4 b5 b6 := by decide +kernel
theorem or3 : ∀ b0 b1 b2 b3 b4 b5 b6, bits .or .u64 (msk7 b0 b1 b2 b3 b4 b5 b6) (shl .u64 1 3) = msk7 b0 b1 b2 true b4 b5 b6 := by decide +kernel
theorem or4 : ∀ b0 b1 b2 b3 b4 b5 b6, bits .or .u64 (msk7 b0 b1 b2 b3 b4 b5 b6) (shl .u64 1 4) = msk7 b0 b1 b2 b3 true b5 b6 := by decide +kernel
theorem or5 : ∀ b0 b1 b2 b3 b4 b5 b6, bits .or .u64 (msk7 b0 b1 b2 b3 b4 b5 b6) (shl .u64 1 5) = msk7 b0 b1 b2 b3 b4 true b6 := by decide +kernel
theorem or6 : ∀ b0 b1 b2 b3 b4 b5 b6, bits .or .u64 (msk7 b0 b1 b2 b3 b4 b5 b6) (shl .u64 1 6) = msk7 b0 b1 b2 b3 b4 b5 true := by decide +kernel
theorem or_msk (p : Int → Bool) {x : Int} (h0 : 0 ≤ x) (h6 : x ≤ 6) : bits .or .u64 (msk p) (shl .u64 1 x) = msk (fun y => p y || decide (y = x)) := by
  rcases node_cases h0 h6 with rfl | rfl | rfl | rfl | rfl | rfl | rfl <;> simp [msk, or0, or1, or2, or3, or4, or5, or6]

theorem and0 : ∀ b0 b1 b2 b3 b4 b5 b6, bits .and .u64 (shr .u64 (msk7 b0 b1 b2 b3 b4 b5 b6) 0) 1 = if b0 then 1 else 0 := by decide +kernel
theorem and1 : ∀ b0 b1 b2 b3 b4 b5 b6, bits .and .u64 (shr .u64 (msk7 b0 b1 b2 b3 b4 b5 b6) 1) 1 = if b1 then 1 else 0 := by decide +kernel
theorem and2 : ∀ b0 b1 b2 b3 b4 b5 b6, bits .and .u64 (shr .u64 (msk7 b0 b1 b2 b3 b4 b5 b6) 2) 1 = if b2 then 1 else 0 := by decide +kernel
theorem and3 : ∀ b0 b1 b2 b3 b4 b5 b6, bits .and .u64 (shr .u64 (msk7 b0 b1 b2 b3 b4 b5 b6) 3) 1 = if b3 then 1 else 0 := by decide +kernel
theorem and4 : ∀ b0 b1 b2 b3 b4 b5 b6, bits .and .u64 (shr .u64 (msk7 b0 b1 b2 b3 b4 b5 b6) 4) 1 = if b4 then 1 else 0 := by decide +kernel
theorem and5 : ∀ b0 b1 b2 b3 b4 b5 b6, bits .and .u64 (shr .u64 (msk7 b0 b1 b2 b3 b4 b5 b6) 5) 1 = if b5 then 1 else 0 := by decide +kernel
theorem and6 : ∀ b0 b1 b2 b3 b4 b5 b6, bits .and .u64 (shr .u64 (msk7 b0 b1 b2 b3 b4 b5 b6) 6) 1 = if b6 then 1 else 0 := by decide +kernel
theorem and_msk (p : Int → Bool) {x : Int} (h0 : 0 ≤ x) (h6 : x ≤ 6) : bits .and .u64 (shr .u64 (msk p) x) 1 = if p x then 1 else 0 := by
  rcases node_cases h0 h6 with rfl | rfl | rfl | rfl | rfl | rfl | rfl <;> simp [msk, and0, and1, and2, and3, and4, and5, and6]

theorem msk_congr {p q : Int → Bool} (h : ∀ x, 0 ≤ x → x ≤ 6 → p x = q x) : msk p = msk q := by
  unfold msk
  rw [h 0 (by omega) (by omega), h 1 (by omega) (by omega), h 2 (by omega) (by omega), h 3 (by omega) (by omega), h 4 (by omega) (by omega), h 5 (by omega) (by omega), h 6 (by omega) (by omega)]

theorem set_from (l : List Int) (hl : l.length ≤ 140737488351232) : ∀ (d k i : Nat) (p : Int → Bool), i + d = l.length → d < k → member_set.l0 k (msk p) l (l.length : Int) i = some (msk (fun y => p y || decide (y ∈ l.drop i)))
  | 0, k, i, p, hi, hk => by
    obtain ⟨k, rfl⟩ : ∃ m, k = m + 1 := ⟨k - 1, by omega⟩
    simp only [member_set.l0]
    rw [if_neg (by omega), List.drop_eq_nil_of_le (by omega)]
    simp
  | d + 1, k, i, p, hi, hk => by
    obtain ⟨k, rfl⟩ : ∃ m, k = m + 1 := ⟨k - 1, by omega⟩
    simp only [member_set.l0]
    rw [if_pos (by omega), if_pos (by omega), if_pos (by omega), rd_nat l i (by omega), List.drop_eq_getElem_cons (by omega : i < l.length)]
    unfold member_node.f
    by_cases h0 : 0 ≤ l[i]
    · rw [if_pos h0]
      by_cases h7 : l[i] < 7
      · simp only [h7, decide_true, Option.bind_some, ↓reduceIte]
        rw [if_pos h0, or_msk p h0 (by omega), wrap_succ i (by omega), set_from l hl d k (i + 1) _ (by omega) (by omega)]
        congr 1
        refine msk_congr fun x _ _ => ?_
        rw [Bool.or_assoc]
        congr 1
        rw [Bool.eq_iff_iff]
        simp only [Bool.or_eq_true, decide_eq_true_eq, List.mem_cons]
      · simp only [h7, decide_false, Option.bind_some, Bool.false_eq_true, ↓reduceIte]
        rw [wrap_succ i (by omega), set_from l hl d k (i + 1) _ (by omega) (by omega)]
        congr 1
        refine msk_congr fun x _ _ => ?_
        congr 1
        rw [Bool.eq_iff_iff]
        simp only [decide_eq_true_eq, List.mem_cons]
        exact ⟨.inr, fun h => h.resolve_left (by omega)⟩
    · rw [if_neg h0]
      simp only [Option.bind_some, Bool.false_eq_true, ↓reduceIte]
      rw [wrap_succ i (by omega), set_from l hl d k (i + 1) _ (by omega) (by omega)]
      congr 1
      refine msk_congr fun x _ _ => ?_
      congr 1
      rw [Bool.eq_iff_iff]
      simp only [decide_eq_true_eq, List.mem_cons]
      exact ⟨.inr, fun h => h.resolve_left (by omega)⟩
theorem set_eq (l : List Int) (hl : l.length ≤ 140737488351232) (k : Nat) (hk : l.length < k) : member_set.f k l = some (msk (fun y => decide (y ∈ l))) := by
  unfold member_set.f
  have h := set_from l hl l.length k 0 (fun _ => false) (by omega) hk
  have e : msk (fun _ => false) = 0 := by decide
  rw [e] at h
  simpa using h

theorem nodes_drop (i : Nat) (h : i < 7) : nodes.drop i = (i : Int) :: nodes.drop (i + 1) := by
  have : i = 0 ∨ i = 1 ∨ i = 2 ∨ i = 3 ∨ i = 4 ∨ i = 5 ∨ i = 6 := by omega
  rcases this with rfl | rfl | rfl | rfl | rfl | rfl | rfl <;> rfl
theorem of_from (p : Int → Bool) : ∀ (d k i : Nat) (acc : List Int), i + d = 7 → d < k → acc.length ≤ i → member_of.l0 k (msk p) acc i = some (acc ++ (nodes.drop i).filter p)
  | 0, k, i, acc, hi, hk, ha => by
    obtain ⟨k, rfl⟩ : ∃ m, k = m + 1 := ⟨k - 1, by omega⟩
    obtain rfl : i = 7 := by omega
    simp [member_of.l0, nodes]
  | d + 1, k, i, acc, hi, hk, ha => by
    obtain ⟨k, rfl⟩ : ∃ m, k = m + 1 := ⟨k - 1, by omega⟩
    simp only [member_of.l0]
    rw [if_pos (by omega), if_pos (by omega), and_msk p (by omega) (by omega), nodes_drop i (by omega), List.filter_cons]
    by_cases e : p i = true
    · simp only [e, ↓reduceIte]
      rw [if_pos (by omega), wrap_succ i (by omega), of_from p d k (i + 1) _ (by omega) (by omega) (by simp; omega)]
      simp
    · simp only [e, Bool.false_eq_true, ↓reduceIte, Int.zero_ne_one]
      rw [wrap_succ i (by omega), of_from p d k (i + 1) _ (by omega) (by omega) (by omega)]
theorem of_eq (p : Int → Bool) (k : Nat) (hk : 7 < k) : member_of.f k (msk p) = some (rowp p) := by
  unfold member_of.f
  have := of_from p 7 k 0 [] (by omega) hk (by simp)
  simpa [rowp] using this

theorem sound_eq (l : List Int) (hl : l.length ≤ 140737488351232) (k : Nat) (hk : l.length + 8 ≤ k) : member_Sound.f k l = some (snd l) := by
  unfold member_Sound.f snd
  by_cases h : 0 < l.length
  · rw [if_pos (by omega), set_eq l hl k (by omega)]
    simp only [Option.bind_some]
    rw [of_eq _ k (by omega)]
    simp only [Option.bind_some]
    rw [same_eq l _ hl k (by omega)]
    simp [h]
  · rw [if_neg (by omega)]
    simp [h]
/-- How many are more than half. -/
def quo (l : List Int) : Int := if snd l then (l.length : Int) / 2 + 1 else 0
theorem quorum_eq (l : List Int) (hl : l.length ≤ 140737488351232) (k : Nat) (hk : l.length + 8 ≤ k) : member_Quorum.f k l = some (quo l) := by
  unfold member_Quorum.f quo
  rw [sound_eq l hl k hk]
  simp only [Option.bind_some]
  split
  · congr 1
    unfold wrap64
    omega
  · rfl

theorem row_from (l : List Int) (n : Int) (hl : l.length ≤ 140737488351232) : ∀ (d k i : Nat) (acc : List Int), i + d = 7 → d + l.length + 1 < k → acc.length ≤ i →
    curfewref29_Row.l0 k l (-1) n acc i = some (acc ++ (nodes.drop i).filter (fun x => decide (x = n) || decide (x ∈ l)))
  | 0, k, i, acc, hi, hk, ha => by
    obtain ⟨k, rfl⟩ : ∃ m, k = m + 1 := ⟨k - 1, by omega⟩
    obtain rfl : i = 7 := by omega
    simp [curfewref29_Row.l0, nodes]
  | d + 1, k, i, acc, hi, hk, ha => by
    obtain ⟨k, rfl⟩ : ∃ m, k = m + 1 := ⟨k - 1, by omega⟩
    simp only [curfewref29_Row.l0]
    rw [if_pos (by omega), nodes_drop i (by omega), List.filter_cons]
    by_cases e : (i : Int) = n
    · rw [if_pos e, if_pos (by omega), wrap_succ i (by omega), row_from l n hl d k (i + 1) _ (by omega) (by omega) (by simp; omega)]
      simp [e]
    · rw [if_neg e, if_neg (by omega), has_eq l i hl k (by omega)]
      simp only [Option.bind_some, decide_eq_true_eq]
      by_cases e2 : (i : Int) ∈ l
      · rw [if_pos e2, if_pos (by omega), wrap_succ i (by omega), row_from l n hl d k (i + 1) _ (by omega) (by omega) (by simp; omega)]
        simp [e2]
      · rw [if_neg e2, wrap_succ i (by omega), row_from l n hl d k (i + 1) _ (by omega) (by omega) (by omega)]
        simp [e, e2]
theorem row_eq (l : List Int) (n : Int) (hl : l.length ≤ 140737488351232) (k : Nat) (hk : l.length + 10 ≤ k) : curfewref29_Row.f k l (-1) n = some (rowp (fun x => decide (x = n) || decide (x ∈ l))) := by
  unfold curfewref29_Row.f
  have := row_from l n hl 7 k 0 [] (by omega) (by omega) (by simp)
  simpa [rowp] using this

/-- How many of a list are in another. -/
def cnt (l s : List Int) : Nat := (l.filter (fun x => decide (x ∈ s))).length
theorem cnt_le (l s : List Int) : cnt l s ≤ l.length := List.length_filter_le _ _
theorem reached_from (l s : List Int) (hl : l.length ≤ 140737488351232) (hs : s.length ≤ 140737488351232) : ∀ (d k i c : Nat), i + d = l.length → d + s.length + 14 < k → c ≤ i →
    curfewref29_Reached.l0 k l s c i = some (snd l && decide (2 * ((c + cnt (l.drop i) s : Nat) : Int) > (l.length : Int)))
  | 0, k, i, c, hi, hk, hc => by
    obtain ⟨k, rfl⟩ : ∃ m, k = m + 1 := ⟨k - 1, by omega⟩
    simp only [curfewref29_Reached.l0]
    rw [if_neg (by omega), rsound_eq l k (by omega), List.drop_eq_nil_of_le (by omega)]
    have e : wrap64 (2 * (c : Int)) = 2 * (c : Int) := by unfold wrap64; omega
    simp only [Option.bind_some, e]
    cases snd l <;> simp [cnt]
  | d + 1, k, i, c, hi, hk, hc => by
    obtain ⟨k, rfl⟩ : ∃ m, k = m + 1 := ⟨k - 1, by omega⟩
    simp only [curfewref29_Reached.l0]
    rw [if_pos (by omega), if_pos (by omega), rd_nat l i (by omega), has_eq s _ hs k (by omega), List.drop_eq_getElem_cons (by omega : i < l.length)]
    simp only [Option.bind_some, decide_eq_true_eq]
    by_cases e : l[i] ∈ s
    · rw [if_pos e, wrap_succ i (by omega), wrap_succ c (by omega), reached_from l s hl hs d k (i + 1) (c + 1) (by omega) (by omega) (by omega)]
      have : cnt (l[i] :: List.drop (i + 1) l) s = cnt (List.drop (i + 1) l) s + 1 := by unfold cnt; rw [List.filter_cons_of_pos (by simpa using e)]; rfl
      rw [this]
      have : c + 1 + cnt (List.drop (i + 1) l) s = c + (cnt (List.drop (i + 1) l) s + 1) := by omega
      rw [this]
    · rw [if_neg e, wrap_succ i (by omega), reached_from l s hl hs d k (i + 1) c (by omega) (by omega) (by omega)]
      have : cnt (l[i] :: List.drop (i + 1) l) s = cnt (List.drop (i + 1) l) s := by unfold cnt; rw [List.filter_cons_of_neg (by simpa using e)]
      rw [this]
theorem reached_eq (l s : List Int) (hl : l.length ≤ 140737488351232) (hs : s.length ≤ 140737488351232) (k : Nat) (hk : l.length + s.length + 16 ≤ k) :
    curfewref29_Reached.f k l s = some (snd l && decide (2 * (cnt l s : Int) > (l.length : Int))) := by
  unfold curfewref29_Reached.f
  have := reached_from l s hl hs l.length k 0 0 (by omega) (by omega) (by omega)
  simpa using this

/-! ### What a poll is -/
/-- Who said so. -/
def who (said : Int → Int) (what : Int) : List Int := rowp (fun x => decide (said x = what))
/-- What was said, with one more. -/
def note (said : Int → Int) (n : Int) (b : Bool) : Int → Int := fun x => if x = n then (if b then 1 else 2) else said x
/-- Does it count? -/
def counts (mem : List Int) (said : Int → Int) (n : Int) : Bool := decide (n ∈ mem ∧ said n = 0)
/-- 1: open, 2: won, 3: lost. -/
def state (mem : List Int) (said : Int → Int) : Int := if quo mem ≤ (who said 1).length then 2 else if (mem.length : Int) - (who said 2).length < quo mem then 3 else 1
/-- Only members said something, yes (1) or no (2). -/
structure Ok (mem : List Int) (said : Int → Int) : Prop where
  mem : ∀ x, said x ≠ 0 → x ∈ mem
  val : ∀ x, said x = 0 ∨ said x = 1 ∨ said x = 2
theorem Ok.note {mem : List Int} {said : Int → Int} (h : Ok mem said) {n : Int} (hn : n ∈ mem) (b : Bool) : Ok mem (note said n b) where
  mem := fun x hx => by
    unfold pure.note at hx
    by_cases e : x = n
    · rw [e]
      exact hn
    · rw [if_neg e] at hx
      exact h.mem x hx
  val := fun x => by
    unfold pure.note
    by_cases e : x = n
    · rw [if_pos e]
      cases b <;> simp
    · rw [if_neg e]
      exact h.val x
theorem Ok.start (mem : List Int) : Ok mem (fun _ => 0) := ⟨fun x h => absurd rfl h, fun _ => .inl rfl⟩
theorem mem_who {said : Int → Int} {what x : Int} : x ∈ who said what ↔ (0 ≤ x ∧ x ≤ 6) ∧ said x = what := by
  unfold who
  rw [mem_rowp]
  simp
theorem who_len (said : Int → Int) (what : Int) : (who said what).length ≤ 7 := rowp_length _
theorem who_note_yes (said : Int → Int) (n : Int) (what : Int) (hw : what = 1 ∨ what = 2) (b : Bool) (hb : (b = true ∧ what = 1) ∨ (b = false ∧ what = 2)) (h0 : said n = 0) :
    rowp (fun x => decide (x = n) || decide (x ∈ who said what)) = who (note said n b) what := by
  unfold who
  refine rowp_congr fun x h0' h6 => ?_
  rw [Bool.eq_iff_iff]
  simp only [Bool.or_eq_true, decide_eq_true_eq, mem_rowp]
  unfold note
  by_cases e : x = n
  · rw [if_pos e]
    rcases hb with ⟨rfl, rfl⟩ | ⟨rfl, rfl⟩ <;> simp [e]
  · simp [e, h0', h6]
theorem who_note_other (said : Int → Int) (n : Int) (what : Int) (b : Bool) (hb : (b = true ∧ what = 2) ∨ (b = false ∧ what = 1)) (h0 : said n = 0) : who (note said n b) what = who said what := by
  unfold who
  refine rowp_congr fun x _ _ => ?_
  rw [Bool.eq_iff_iff]
  simp only [decide_eq_true_eq]
  unfold note
  by_cases e : x = n
  · rw [if_pos e]
    subst e
    rcases hb with ⟨rfl, rfl⟩ | ⟨rfl, rfl⟩ <;> simp [h0]
  · rw [if_neg e]

theorem rnote_eq (mem : List Int) (hm : snd mem = true) (said : Int → Int) (h : Ok mem said) (n : Int) (b : Bool) (k : Nat) (hk : 30 ≤ k) :
    curfewref32_Note.f k mem (who said 1) (who said 2) n b =
      some (if counts mem said n then (mem, who (note said n b) 1, who (note said n b) 2, true) else (mem, who said 1, who said 2, false)) := by
  have hl := (snd_length hm).2
  have l1 := who_len said 1
  have l2 := who_len said 2
  obtain ⟨k, rfl⟩ : ∃ m, k = m + 1 := ⟨k - 1, by omega⟩
  unfold curfewref32_Note.f counts
  rw [has_eq mem n (by omega) _ (by omega)]
  simp only [Option.bind_some, decide_eq_true_eq]
  by_cases e : n ∈ mem
  · rw [if_pos e, has_eq _ n (by omega) _ (by omega)]
    have hr := (snd_iff mem).1 hm
    have hn := hr.2.2 n e
    simp only [Option.bind_some, decide_eq_true_eq]
    by_cases e1 : n ∈ who said 1
    · have : said n ≠ 0 := by rw [(mem_who.1 e1).2]; decide
      rw [if_pos e1]
      simp [curfewref32_Note.j0, this]
    · rw [if_neg e1, has_eq _ n (by omega) _ (by omega)]
      simp only [Option.bind_some]
      by_cases e2 : n ∈ who said 2
      · have : said n ≠ 0 := by rw [(mem_who.1 e2).2]; decide
        simp [curfewref32_Note.j0, this, e2]
      · have h0 : said n = 0 := by
          rcases h.val n with h0 | h1 | h2
          · exact h0
          · exact absurd (mem_who.2 ⟨hn, h1⟩) e1
          · exact absurd (mem_who.2 ⟨hn, h2⟩) e2
        simp only [curfewref32_Note.j0, e2, decide_false, Bool.false_eq_true, ↓reduceIte, e, h0, and_self]
        cases b with
        | true =>
          simp only [↓reduceIte]
          rw [row_eq _ n (by omega) k (by omega)]
          rw [who_note_yes said n 1 (.inl rfl) true (.inl ⟨rfl, rfl⟩) h0, who_note_other said n 2 true (.inl ⟨rfl, rfl⟩) h0]
          rfl
        | false =>
          simp only [Bool.false_eq_true, ↓reduceIte]
          rw [row_eq _ n (by omega) k (by omega)]
          rw [who_note_yes said n 2 (.inr rfl) false (.inr ⟨rfl, rfl⟩) h0, who_note_other said n 1 false (.inr ⟨rfl, rfl⟩) h0]
          rfl
  · rw [if_neg e]
    simp [curfewref32_Note.j0, e]
end Go.Proofs.Ytibdjmmhdggpfaa.pure
