/-
  Near as plain Lean; of two polls of near rows in which nobody says yes to both, one at most is won.
-/
import Derived.Test.YtibdjmmhdggpfaaNear
import Derived.Test.YtibdjmmhdggpfaaArgs
namespace Go.Proofs.Ytibdjmmhdggpfaa
set_option linter.unusedVariables false
set_option linter.unusedSimpArgs false
open Go.RowKit Go.Maps Go.Proofs.YtibdjmmhdggpfaaW.PrintWords Go.Proofs.YtibdjmmhdggpfaaW.PrintMore Go.Proofs.Ytibdjmmhdggpfaa.PPollPlays Go.Proofs.Ytibdjmmhdggpfaa.pure Go.Proofs.Ytibdjmmhdggpfaa.fmap

theorem hasbig_from (l : List Int) (n : Int) (hl : l.length ≤ 9223372036854775807) : ∀ (d k i : Nat), i + d = l.length → d < k → curfewref29_Has.l0 k l n i = some (decide (n ∈ l.drop i))
  | 0, k, i, hi, hk => by
    obtain ⟨k, rfl⟩ : ∃ m, k = m + 1 := ⟨k - 1, by omega⟩
    simp only [curfewref29_Has.l0]
    rw [if_neg (by omega), List.drop_eq_nil_of_le (by omega)]
    simp
  | d + 1, k, i, hi, hk => by
    obtain ⟨k, rfl⟩ : ∃ m, k = m + 1 := ⟨k - 1, by omega⟩
    simp only [curfewref29_Has.l0]
    rw [if_pos (by omega), if_pos (by omega), rd_nat l i (by omega), List.drop_eq_getElem_cons (by omega : i < l.length)]
    by_cases e : l[i] = n
    · rw [if_pos e, e]
      simp
    · rw [if_neg e, wrap_succ i (by omega), hasbig_from l n hl d k (i + 1) (by omega) (by omega)]
      have e' : ¬ n = l[i] := fun h => e h.symm
      simp only [List.mem_cons, e', false_or]
theorem hasbig_eq (l : List Int) (n : Int) (hl : l.length ≤ 9223372036854775807) (k : Nat) (hk : l.length < k) : curfewref29_Has.f k l n = some (decide (n ∈ l)) := by
  unfold curfewref29_Has.f
  have := hasbig_from l n hl l.length k 0 (by omega) hk
  simpa using this

/-- How many of the nodes from i on stand in one list alone. -/
def alone (a b : List Int) (i : Nat) : Nat := ((nodes.drop i).filter (fun n => decide (n ∈ a) != decide (n ∈ b))).length
def near (a b : List Int) : Bool := snd a && (snd b && decide (alone a b 0 ≤ 1))

theorem near_from (a b : List Int) (ha : a.length ≤ 9223372036854775807) (hb : b.length ≤ 9223372036854775807) : ∀ (d k i c : Nat), i + d = 7 → d + a.length + b.length + 20 ≤ k → c ≤ i →
    curfewref29_Near.l0 k a b c i = some (snd a && (snd b && decide (c + alone a b i ≤ 1)))
  | 0, k, i, c, hi, hk, hc => by
    obtain ⟨k, rfl⟩ : ∃ m, k = m + 1 := ⟨k - 1, by omega⟩
    obtain rfl : i = 7 := by omega
    have h0 : alone a b 7 = 0 := rfl
    simp only [curfewref29_Near.l0]
    rw [if_neg (by omega), rsound_eq a _ (by omega), rsound_eq b _ (by omega), h0]
    simp only [Option.bind_some]
    cases snd a <;> cases snd b <;> simp
    omega
  | d + 1, k, i, c, hi, hk, hc => by
    obtain ⟨k, rfl⟩ : ∃ m, k = m + 1 := ⟨k - 1, by omega⟩
    have hd := nodes_drop i (by omega)
    have hal : alone a b i = (if decide ((i : Int) ∈ a) != decide ((i : Int) ∈ b) then 1 else 0) + alone a b (i + 1) := by
      unfold alone
      rw [hd, List.filter_cons]
      split <;> simp [Nat.add_comm]
    simp only [curfewref29_Near.l0]
    rw [if_pos (by omega), hasbig_eq a _ ha _ (by omega), hasbig_eq b _ hb _ (by omega)]
    simp only [Option.bind_some]
    rw [hal, wrap_succ i (by omega)]
    by_cases e : (decide ((i : Int) ∈ a) != decide ((i : Int) ∈ b)) = true
    · rw [if_pos e, if_pos e, wrap_succ c (by omega), near_from a b ha hb d k (i + 1) (c + 1) (by omega) (by omega) (by omega)]
      simp only [Nat.add_assoc, Nat.add_comm 1]
    · rw [if_neg e, if_neg e, near_from a b ha hb d k (i + 1) c (by omega) (by omega) (by omega)]
      simp
theorem near_eq (a b : List Int) (ha : a.length ≤ 9223372036854775807) (hb : b.length ≤ 9223372036854775807) (k : Nat) (hk : a.length + b.length + 27 ≤ k) : curfewref29_Near.f k a b = some (near a b) := by
  unfold curfewref29_Near.f near
  have := near_from a b ha hb 7 k 0 0 (by omega) (by omega) (by omega)
  simpa using this
/-! ### Counting -/
theorem count_pair (A B P Q : Int → Bool) (h1 : ∀ x, P x = true → A x = true) (h2 : ∀ x, Q x = true → B x = true) (h3 : ∀ x, ¬ (P x = true ∧ Q x = true)) :
    ∀ L : List Int, 2 * (L.filter P).length + 2 * (L.filter Q).length ≤ (L.filter A).length + (L.filter B).length + (L.filter (fun x => A x != B x)).length
  | [] => by simp
  | x :: L => by
    have ih := count_pair A B P Q h1 h2 h3 L
    have a1 := h1 x
    have a2 := h2 x
    have a3 := h3 x
    simp only [List.filter_cons]
    cases hP : P x <;> cases hQ : Q x <;> cases hA : A x <;> cases hB : B x <;> simp_all <;> omega
theorem state_won {mem : List Int} {said : Int → Int} (h : state mem said = 2) : quo mem ≤ (who said 1).length := by
  unfold state at h
  split at h
  · assumption
  · split at h <;> cases h
/-- Of two polls of near rows in which nobody says yes to both, one at most is won. -/
theorem won_one {a b : List Int} {p q : Int → Int} (hn : near a b = true) (hp : Ok a p) (hq : Ok b q) (hd : ∀ x, ¬ (p x = 1 ∧ q x = 1)) : ¬ (state a p = 2 ∧ state b q = 2) := by
  rintro ⟨e1, e2⟩
  have w1 := state_won e1
  have w2 := state_won e2
  unfold near at hn
  simp only [Bool.and_eq_true, decide_eq_true_eq] at hn
  obtain ⟨ha, hb, hal⟩ := hn
  rw [quo_snd ha] at w1
  rw [quo_snd hb] at w2
  have hc := count_pair (fun x => decide (x ∈ a)) (fun x => decide (x ∈ b)) (fun x => decide (p x = 1)) (fun x => decide (q x = 1))
    (fun x h => by simp only [decide_eq_true_eq] at h ⊢; exact hp.mem x (by rw [h]; decide)) (fun x h => by simp only [decide_eq_true_eq] at h ⊢; exact hq.mem x (by rw [h]; decide))
    (fun x h => hd x (by simpa using h)) nodes
  have la : a.length = (nodes.filter (fun x => decide (x ∈ a))).length := congrArg List.length (snd_row ha)
  have lb : b.length = (nodes.filter (fun x => decide (x ∈ b))).length := congrArg List.length (snd_row hb)
  have lal : (nodes.filter (fun x => decide (x ∈ a) != decide (x ∈ b))).length ≤ 1 := hal
  have l1 : (who p 1).length = (nodes.filter (fun x => decide (p x = 1))).length := rfl
  have l2 : (who q 1).length = (nodes.filter (fun x => decide (q x = 1))).length := rfl
  omega

theorem rnear (w : World) (A A' : Option Addr) (c c' : Nat) (a b : List Int) (ha : IntC w A a) (hca : a.length ≤ c) (hb : IntC w A' b) (hcb : b.length ≤ c') (hla : a.length ≤ 9223372036854775807) (hlb : b.length ≤ 9223372036854775807) :
    Calls Try.prog 21 #[.slice A a.length c, .slice A' b.length c'] w fun e w' => e = .returned (.bool (near a b)) ∧ Below w.heap.size w w' :=
  (curfewref29_Near.calls (a.length + b.length + 27) A c a A' c' b _ w ha hca hb hcb (near_eq a b hla hlb _ (by omega))).mono fun e w' he => ⟨he.1, d0_below he.2⟩
end Go.Proofs.Ytibdjmmhdggpfaa
