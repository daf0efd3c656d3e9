/-
  slices.Sort of at most twelve unsigned numbers; slices of these.
-/
import Derived.Test.YtibdjmmhdggpfaaArgs
import Derived.BigRegion
import Derived.BigQuiet
import Derived.Deep.QuietTactic
namespace Go.Proofs.Ytibdjmmhdggpfaa
set_option linter.unusedVariables false
set_option linter.unusedSimpArgs false
open Go.RowKit Go.Maps Go.Proofs.YtibdjmmhdggpfaaW.PrintWords Go.Proofs.YtibdjmmhdggpfaaW.PrintMore Go.Proofs.Ytibdjmmhdggpfaa.PPollPlays Go.Proofs.Ytibdjmmhdggpfaa.pure Go.Proofs.Ytibdjmmhdggpfaa.fmap

/-- A slice of unsigned numbers that is read. -/
def UC (w : World) (A : Option Addr) (l : List Int) : Prop := Kd.C (Kd.int .u64) w A l.length l
/-- A slice of unsigned numbers of the call's own. -/
def UR (w : World) (base : Nat) (v : Value) (l : List Int) : Prop := Kd.R (Kd.int .u64) 50 w base (fun _ => True) v l
theorem UC_iff {w : World} {A : Option Addr} {l : List Int} : UC w A l ↔ l.length ≤ 9223372036854775807 ∧ (0 < l.length → ∃ ad, A = some ad ∧ ∀ j, ∀ h : j < l.length, w.cell? (ad.add j) = some (.int .u64 l[j])) := by
  unfold UC Kd.C ReadsRow
  constructor
  · rintro ⟨_, h1, h2⟩
    refine ⟨h1, fun h => ?_⟩
    obtain ⟨ad, e, hc⟩ := h2 h
    refine ⟨ad, e, fun j hj => ?_⟩
    obtain ⟨c, _, hc1, hc2⟩ := hc j l[j] (by simp [hj])
    have hc1' : c = [.int .u64 l[j]] := hc1
    subst hc1'
    have := hc2 0 (.int .u64 l[j]) rfl
    have e1 : Kd.sz (Kd.int .u64) = 1 := rfl
    rw [e1] at this
    simpa using this
  · rintro ⟨h1, h2⟩
    refine ⟨rfl, h1, fun h => ?_⟩
    obtain ⟨ad, e, hc⟩ := h2 h
    refine ⟨ad, e, fun j p hp => ?_⟩
    obtain ⟨hj, rfl⟩ := List.getElem?_eq_some_iff.1 hp
    refine ⟨[.int .u64 l[j]], rfl, rfl, fun i u hu => ?_⟩
    have hi : i = 0 := by
      have := (List.getElem?_eq_some_iff.1 hu).1
      simpa using this
    subst hi
    simp at hu
    subst hu
    have e1 : Kd.sz (Kd.int .u64) = 1 := rfl
    rw [e1]
    simpa using hc j hj
theorem valsu_get (l : List Int) (j : Nat) (u : Value) (h : (l.map (Value.int .u64))[j]? = some u) : ∃ hj : j < l.length, u = .int .u64 l[j] := by
  rw [List.getElem?_map] at h
  obtain ⟨x, hx, rfl⟩ := Option.map_eq_some_iff.1 h
  obtain ⟨hj, rfl⟩ := List.getElem?_eq_some_iff.1 hx
  exact ⟨hj, rfl⟩
theorem uR_of_owns {w : World} {base : Nat} {v : Value} {l : List Int} (h : w.ownsRow base 50 1 v l.length (l.map (Value.int .u64))) : UR w base v l :=
  ⟨fun _ _ => trivial, _, h, by simp [Kd.int, Kd.scalar], fun j p hp => by
    obtain ⟨hj, rfl⟩ := List.getElem?_eq_some_iff.1 hp
    show List.take 1 (List.drop (j * 1) (l.map (Value.int .u64))) = [.int .u64 l[j]]
    rw [Nat.mul_one, List.drop_eq_getElem_cons (by simpa using hj)]
    simp⟩
theorem UR.owns {w : World} {base : Nat} {v : Value} {l : List Int} (h : UR w base v l) : w.ownsRow base 50 1 v l.length (l.map (Value.int .u64)) := by
  obtain ⟨_, inner, hown, hl, hr⟩ := h
  have e : inner = l.map (Value.int .u64) := by
    have hl' : inner.length = l.length := by simpa [Kd.int, Kd.scalar] using hl
    apply List.ext_getElem?
    intro j
    by_cases hj : j < l.length
    · have h1 : List.take 1 (List.drop (j * 1) inner) = [.int .u64 l[j]] := hr j l[j] (by simp [hj])
      have h2 := congrArg (fun l => l[0]?) h1
      simp only [Nat.mul_one, List.getElem?_take, List.getElem?_drop] at h2
      simp [hj] at h2 ⊢
      exact h2
    · simp [hj, hl']
  rw [← e]
  exact hown
theorem UR.reads {w : World} {base : Nat} {v : Value} {l : List Int} (h : UR w base v l) : ∃ A c, v = .slice A l.length c ∧ l.length ≤ c ∧ UC w A l := Kd.R_reads h


theorem swap_sorted {l : List Int} {i j : Nat} (e0 : 0 < j) (hjl : j < l.length) (hs : Sorted l (i + 1) j) (hlt : l[j] < l[j - 1]'(by omega)) : Sorted ((l.set j (l[j - 1]'(by omega))).set (j - 1) l[j]) (i + 1) (j - 1) := by
  have hget : ∀ p (h : p < l.length), ((l.set j (l[j - 1]'(by omega))).set (j - 1) l[j])[p]'(by simpa using h) = if p = j - 1 then l[j] else if p = j then l[j - 1]'(by omega) else l[p] := by
    intro p h
    rw [List.getElem_set, List.getElem_set]
    by_cases a : p = j - 1
    · subst a
      simp
    · by_cases b : p = j
      · subst b
        have : ¬ p - 1 = p := by omega
        simp [this, a]
      · have a' : ¬ j - 1 = p := fun e => a e.symm
        have b' : ¬ j = p := fun e => b e.symm
        simp [a, b, a', b']
  intro p q hpq hq hne h
  have hq' : q < l.length := by simpa using h
  rw [hget p (by omega), hget q hq']
  rw [if_neg hne]
  by_cases b : q = j
  · rw [if_pos b]
    by_cases a : p = j - 1
    · rw [if_pos a]
      omega
    · rw [if_neg a, if_neg (by omega)]
      exact hs p (j - 1) (by omega) (by omega) (by omega) (by omega)
  · rw [if_neg b]
    by_cases a : p = j - 1
    · rw [if_pos a]
      exact hs j q (by omega) hq b hq'
    · rw [if_neg a]
      by_cases c : p = j
      · rw [if_pos c]
        exact hs (j - 1) q (by omega) hq b hq'
      · rw [if_neg c]
        exact hs p q hpq hq b hq'
theorem stop_sorted {l : List Int} {i j : Nat} (e0 : 0 < j) (hjl : j < l.length) (hs : Sorted l (i + 1) j) (hlt : ¬ l[j] < l[j - 1]'(by omega)) : SortedTo l (i + 1) := by
  intro p q hpq hq h
  by_cases b : q = j
  · subst b
    by_cases a : p = q - 1
    · subst a
      omega
    · have := hs p (q - 1) (by omega) (by omega) (by omega) (by omega)
      omega
  · exact hs p q hpq hq b h
theorem zero_sorted {l : List Int} {i : Nat} (hs : Sorted l (i + 1) 0) : SortedTo l (i + 1) := fun p q hpq hq h => hs p q hpq hq (by omega) h

/-- Block g begins with the numbers l. -/
def Row (w : World) (g : Nat) (l : List Int) : Prop := ∃ cs, w.heap[g]? = some (.cells cs 50 (0, 0)) ∧ l.length ≤ cs.size ∧ ∀ j, ∀ h : j < l.length, cs[j]? = some (.int .u64 l[j])
theorem Row.cell {w : World} {g : Nat} {l : List Int} (h : Row w g l) (j : Nat) (hj : j < l.length) : w.cell? ⟨g, j, none⟩ = some (.int .u64 l[j]) := by
  obtain ⟨cs, hb, _, hc⟩ := h
  rw [blk_cell hb]
  exact hc j hj
theorem Row.free {w : World} {g : Nat} {l : List Int} (h : Row w g l) (j : Nat) : w.frozen? ⟨g, j, none⟩ = false := by
  obtain ⟨cs, hb, _, hc⟩ := h
  exact blk_frozen hb j
theorem Row.put {w : World} {g : Nat} {l : List Int} (h : Row w g l) (j : Nat) (x : Int) : Row (w.setCell ⟨g, j, none⟩ (.int .u64 x)) g (l.set j x) := by
  obtain ⟨cs, hb, hl, hc⟩ := h
  refine ⟨_, blk_set hb j _, by simpa using hl, fun p hp => ?_⟩
  have hp' : p < l.length := by simpa using hp
  rw [List.getElem_set, Array.getElem?_setIfInBounds]
  by_cases e : j = p
  · subst e
    simp; omega
  · simp [e, hc p hp']
theorem isnan_u (a : Int) (w : World) : Calls Try.prog 113 #[.int .u64 a] w fun e w' => e = .returned (.bool false) ∧ w = w' := by
  go_enter Try.func113, Try.ntmps113
  go_wp2
  go_ret
  exact ⟨by simp, rfl⟩
theorem less_u (a b : Int) (w : World) : Calls Try.prog 101 #[.int .u64 a, .int .u64 b] w fun e w' => e = .returned (.bool (decide (a < b))) ∧ w' = w := by
  go_enter Try.func101, Try.ntmps101
  go_wp2_with (go_at_call 113; refine (isnan_u _ _).mono ?_; rintro e w1 ⟨rfl, rfl⟩)
  go_ret
  exact ⟨rfl, rfl⟩
theorem less_ub (a b : Int) (c : Bool) (h : decide (a < b) = c) (w : World) : Calls Try.prog 101 #[.int .u64 a, .int .u64 b] w fun e w' => e = .returned (.bool c) ∧ w' = w := by
  rw [← h]
  exact less_u a b w

/-- At the head of a round of the sort. -/
structure SortR (w : World) (g : Nat) (l l' : List Int) (wr : World) : Prop where
  row : Row wr g l'
  perm : l'.Perm l
  grown : w.grownBy wr (some g)
theorem SortR.len {w : World} {g : Nat} {l l' : List Int} {wr : World} (h : SortR w g l l' wr) : l'.length = l.length := h.perm.length_eq
theorem SortR.drew {w : World} {g : Nat} {l l' : List Int} {wr : World} (h : SortR w g l l' wr) : SortR w g l l' wr.drew := by
  obtain ⟨⟨cs, hb, r⟩, p, hg⟩ := h
  exact ⟨⟨cs, hb, r⟩, p, ⟨hg.os, hg.tape, hg.output, hg.size, hg.block⟩⟩
theorem SortR.drewN {w : World} {g : Nat} {l l' : List Int} {wr : World} (h : SortR w g l l' wr) (n : Nat) : SortR w g l l' (wr.drewN n) := by
  obtain ⟨⟨cs, hb, r⟩, p, hg⟩ := h
  exact ⟨⟨cs, hb, r⟩, p, ⟨hg.os, hg.tape, hg.output, hg.size, hg.block⟩⟩
theorem SortR.swap {w : World} {g : Nat} {l l' : List Int} {wr : World} (h : SortR w g l l' wr) {m : Nat} (hm : m + 1 < l'.length) :
    SortR w g l ((l'.set (m + 1) (l'[m]'(by omega))).set m l'[m + 1]) (((wr.setCell ⟨g, m + 1, none⟩ (.int .u64 (l'[m]'(by omega)))).setCell ⟨g, m, none⟩ (.int .u64 l'[m + 1]))) := by
  refine ⟨(h.row.put _ _).put _ _, (swap_perm l' (m + 1) hm (by omega)).trans h.perm, ?_⟩
  have one : ∀ (w : World) (i : Nat) (v : Value), w.grownBy (w.setCell ⟨g, i, none⟩ v) (some g) := fun w i v =>
    ⟨rfl, rfl, rfl, by simp, fun k hk hne => Below.heap_setCell w ⟨g, i, none⟩ v k (fun e => hne (by rw [e]))⟩
  exact (h.grown.andThen (one _ _ _) (by simp)).andThen (one _ _ _) (by simp)

/-- What the insertion sort leaves. -/
def InsU (w : World) (g : Nat) (l : List Int) (e : Ending) (w' : World) : Prop := e = .returned (.tuple #[]) ∧ ∃ r, SortR w g l r w' ∧ SortedTo r l.length
set_option maxRecDepth 100000 in
set_option maxHeartbeats 2000000 in
theorem ins_u (w : World) (g cap : Nat) (l : List Int) (h : Row w g l) (h0 : 0 < l.length) (hl : l.length ≤ 100) :
    Calls Try.prog 95 #[.slice (some ⟨g, 0, none⟩) l.length cap, .int .i64 0, .int .i64 l.length] w (InsU w g l) := by
  have R0 : SortR w g l l w := ⟨h, List.Perm.refl _, World.grownBy.refl _ _⟩
  clear h
  go_enter Try.func95, Try.ntmps95
  go_wp2
  go_loopw [6] (fun v wr => ∃ (i : Nat) (l' : List Int), v = .int .i64 i ∧ 1 ≤ i ∧ i ≤ l.length ∧ SortR w g l l' wr ∧ SortedTo l' i) (fun v _ => l.length - (intOf v).toNat)
  case atStart => exact ⟨1, l, rfl, Nat.le_refl _, h0, R0, fun p q hpq hq h => by omega⟩
  case round =>
    clear R0
    obtain ⟨i, l', rfl, hi1, hi2, R, hS⟩ := hrel
    by_cases hlt : i < l.length
    · have HS := Lib.hid hS
      have HR := Lib.hid R
      clear R hS
      go_wp2
      go_loopw [7] (fun v wr => ∃ (j : Nat) (l' : List Int), v = .int .i64 j ∧ j ≤ i ∧ SortR w g l l' wr ∧ Sorted l' (i + 1) j) (fun v _ => (intOf v).toNat)
      case atStart => exact ⟨i, l', rfl, Nat.le_refl _, HR.out, fun p q hpq hq hne h => HS.out p q hpq (by omega) h⟩
      case round =>
        clear HR HS
        obtain ⟨j, l', rfl, hj, R, hS⟩ := hrel
        have HS := Lib.hid hS
        have HR := Lib.hid R
        have hlen := R.len
        rcases j with _ | m
        · clear R hS hlen
          have hd : decide ((0 : Int) < ((0 : Nat) : Int)) = false := by simp
          go_wp2
          go_quiet (fail)
          go_wp2
          go_roundw
          case rel => exact ⟨i + 1, l', by go_num, by omega, hlt, HR.out.drewN _, zero_sorted HS.out⟩
          case measure => simp [intOf]; omega
        · have hm : m + 1 < l'.length := by omega
          have c1 := R.row.cell (m + 1) hm
          have c2 := R.row.cell m (by omega)
          have f1 := R.row.free (m + 1)
          have f2 := R.row.free m
          have hd : decide ((0 : Int) < ((m : Int) + 1)) = true := by simp only [decide_eq_true_eq]; omega
          have hlt' : (m : Int) + 1 < l.length := by omega
          by_cases hq : l'[m + 1] < l'[m]'(by omega)
          · have hb : decide (l'[m + 1] < l'[m]'(by omega)) = true := by simpa using hq
            have HL := fun w => Lib.hid (less_ub _ _ _ hb w)
            have HQ := Lib.hid hq
            have HW := fun n => Lib.hid ((HR.out.drewN n).swap hm)
            clear hq hb R hS
            generalize hx1 : l'[m + 1] = x1 at c1 HL
            generalize hx2 : l'[m]'(by omega) = x2 at c2 HL
            have HX := Lib.hid (And.intro hx1 hx2)
            clear hx1 hx2 hlen
            go_wp2
            go_quiet ((go_at_call 101; exact Calls.quiet_of_same (HL _).out))
            go_wp2
            go_region
            go_wp2
            go_roundw
            case rel =>
              refine ⟨m, _, by go_num, by omega, ?_, swap_sorted (Nat.succ_pos m) hm HS.out HQ.out⟩
              have := (HW (nq + 1)).out
              rw [HX.out.1, HX.out.2] at this
              first | exact this | (rw [← HX.out.1, ← HX.out.2] at this ⊢; exact this)
            case measure => simp [intOf]
          · have hb : decide (l'[m + 1] < l'[m]'(by omega)) = false := by simpa using hq
            have HL := fun w => Lib.hid (less_ub _ _ _ hb w)
            have HQ := Lib.hid hq
            clear hq hb R hS
            generalize hx1 : l'[m + 1] = x1 at c1 HL
            generalize hx2 : l'[m]'(by omega) = x2 at c2 HL
            clear hx1 hx2 hlen
            go_wp2
            go_quiet ((go_at_call 101; exact Calls.quiet_of_same (HL _).out))
            go_wp2
            go_roundw
            case rel => exact ⟨i + 1, l', by go_num, by omega, hlt, HR.out.drewN _, stop_sorted (Nat.succ_pos m) hm HS.out (Int.not_lt.2 HQ.out)⟩
            case measure => simp [intOf]; omega
    · have HR := Lib.hid R
      have HS := Lib.hid hS
      clear R hS
      go_wp2
      go_end0
      refine ⟨rfl, l', HR.out, ?_⟩
      obtain rfl : i = l.length := by omega
      exact HS.out

theorem UR.row {w : World} {base : Nat} {v : Value} {l : List Int} (h : UR w base v l) (h0 : l ≠ []) : ∃ g cap cur, v = .slice (some ⟨g, 0, none⟩) l.length cap ∧ base ≤ g ∧ w.heap[g]? = some (.cells cur 50 (0, 0)) ∧ l.length ≤ cap ∧ cap ≤ maxLen ∧ cur.size = cap ∧ Row w g l := by
  obtain ⟨_, h2⟩ := h.owns
  rcases h2 with ⟨_, hz⟩ | ⟨g, cap, cur, rfl, hb, hh, hc, hm, hs, ht⟩
  · exact absurd (List.eq_nil_of_length_eq_zero hz) h0
  · refine ⟨g, cap, cur, rfl, hb, hh, hc, hm, by omega, cur, hh, by omega, fun j hj => ?_⟩
    have h1 := congrArg (fun x => x[j]?) ht
    simp only [Nat.mul_one, List.getElem?_take, hj, if_true, List.getElem?_map, List.getElem?_eq_getElem hj, Option.map_some] at h1
    simpa using h1
/-- What sorting leaves. -/
def SortsU (w : World) (g cap : Nat) (l : List Int) (e : Ending) (w' : World) : Prop :=
  e = .returned (.tuple #[]) ∧ ∃ r : List Int, r.Pairwise (· ≤ ·) ∧ r.Perm l ∧ Row w' g r ∧ w.grownBy w' (some g)
theorem insU_sorts {w w' : World} {g cap : Nat} {l : List Int} {e : Ending} (h : InsU w g l e w') : SortsU w g cap l e w' := by
  obtain ⟨he, r, hr, hs⟩ := h
  refine ⟨he, r, ?_, hr.perm, hr.row, hr.grown⟩
  rw [List.pairwise_iff_getElem]
  intro p q hp hq hpq
  exact hs p q hpq (by rw [← hr.len]; exact hq) hq
theorem pdq_u (w : World) (g cap : Nat) (l : List Int) (h : Row w g l) (h0 : 0 < l.length) (hl : l.length ≤ 12) (lim : Int) :
    Calls Try.prog 82 #[.slice (some ⟨g, 0, none⟩) l.length cap, .int .i64 0, .int .i64 l.length, .int .i64 lim] w (SortsU w g cap l) := by
  have HC := Lib.hid (ins_u w g cap l h h0 (by omega))
  clear h
  go_enter Try.func82, Try.ntmps82
  go_wp2
  refine wp_loop_once ?_
  go_wp2_with (go_at_call 95; refine HC.out.mono ?_; rintro e w' hI; have HI := Lib.hid (insU_sorts (cap := cap) hI); obtain ⟨rfl, _⟩ := hI)
  go_end0
  exact HI.out
theorem sort_u (w : World) (g cap : Nat) (l : List Int) (h : Row w g l) (h0 : 0 < l.length) (hl : l.length ≤ 12) :
    Calls Try.prog 74 #[.slice (some ⟨g, 0, none⟩) l.length cap] w (SortsU w g cap l) := by
  have HC := fun lim => Lib.hid (pdq_u w g cap l h h0 hl lim)
  clear h
  go_enter Try.func74, Try.ntmps74
  go_wp2_with (first
    | (go_at_call 81; refine (len_small _ l.length hl).mono ?_; rintro e w' ⟨r, rfl, rfl⟩)
    | (go_at_call 82; refine (HC _).out.mono ?_; rintro e w' hI; have HI := Lib.hid hI; obtain ⟨rfl, _⟩ := hI))
  go_end0
  exact HI.out
end Go.Proofs.Ytibdjmmhdggpfaa
