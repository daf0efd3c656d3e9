/-
  slices.Sort of at most twelve numbers; slices.Clone; contracts of member's functions in plain words.
-/
import Derived.Test.YtibdjmmhdggpfaaPure3
import Derived.Lib.Hide
import Derived.WalkLawsBesides
import Derived.WalkSpells
namespace Go.Proofs.Ytibdjmmhdggpfaa
set_option linter.unusedVariables false
set_option linter.unusedSimpArgs false
open Go.RowKit Go.Proofs.YtibdjmmhdggpfaaW.PrintWords Go.Proofs.YtibdjmmhdggpfaaW.PrintMore Go.Proofs.Ytibdjmmhdggpfaa.PPollPlays Go.Proofs.Ytibdjmmhdggpfaa.pure

/-- A slice of numbers that is read. -/
def IntC (w : World) (A : Option Addr) (l : List Int) : Prop := Kd.C (Kd.int .i64) w A l.length l
/-- A slice of numbers of the call's own. -/
def IntR (w : World) (base : Nat) (v : Value) (l : List Int) : Prop := Kd.R (Kd.int .i64) 3 w base (fun _ => True) v l

theorem IntR.shape {w : World} {base : Nat} {P : Nat → Prop} {v : Value} {l : List Int} (h : Kd.R (Kd.int .i64) 3 w base P v l) :
    ∃ A cap, v = .slice A l.length cap ∧ l.length ≤ cap ∧ (A = none → l = []) := by
  obtain ⟨_, inner, hown, _⟩ := h
  rcases hown.2 with ⟨rfl, h0⟩ | ⟨g, cap, cur, rfl, _, _, hc, _⟩
  · exact ⟨none, 0, by rw [h0], by omega, fun _ => List.eq_nil_of_length_eq_zero h0⟩
  · exact ⟨_, cap, rfl, hc, fun h => by cases h⟩
theorem R_any {w : World} {base : Nat} {P : Nat → Prop} {v : Value} {l : List Int} (h : Kd.R (Kd.int .i64) 3 w base P v l) : IntR w base v l := by
  obtain ⟨h1, inner, hown, hr⟩ := h
  exact ⟨fun _ _ => trivial, inner, hown, hr⟩

set_option maxRecDepth 100000 in
theorem len64_small (w : World) (n : Nat) (h : n ≤ 12) : Calls Try.prog 94 #[.int .u64 n] w fun e w' => ∃ r, e = .returned (.int .i64 r) ∧ w = w' := by
  have h1 : ¬ (4294967296 : Int) ≤ n := by omega
  have h2 : ¬ (65536 : Int) ≤ n := by omega
  have h3 : ¬ (256 : Int) ≤ n := by omega
  go_enter Try.func94, Try.ntmps94
  go_wp2
  go_ret
  exact ⟨_, rfl, rfl⟩
theorem len_small (w : World) (n : Nat) (h : n ≤ 12) : Calls Try.prog 81 #[.int .u64 n] w fun e w' => ∃ r, e = .returned (.int .i64 r) ∧ w = w' := by
  go_enter Try.func81, Try.ntmps81
  go_wp2_with (go_at_call 94; refine (len64_small _ n h).mono ?_; rintro e w' ⟨r, rfl, rfl⟩)
  go_ret
  exact ⟨_, rfl, rfl⟩

/-- What sorting leaves. -/
def Sorts (w0 : World) (v : Value) (l : List Int) (e : Ending) (w' : World) : Prop :=
  ∃ r : List Int, e = .returned (.tuple #[]) ∧ r.Pairwise (· ≤ ·) ∧ r.Perm l ∧ IntR w' w0.heap.size v r ∧ Below w0.heap.size w0 w'

theorem pdq_small (P : Nat → Prop) (w0 w : World) (v : Value) (l : List Int) (lim : Int) (hB : Below w0.heap.size w0 w) (ho : Kd.R (Kd.int .i64) 3 w w0.heap.size P v l) (hl : l.length ≤ 12) :
    Calls Try.prog 80 #[v, .int .i64 0, .int .i64 l.length, .int .i64 lim] w (Sorts w0 v l) := by
  obtain ⟨k, r, hr, h1, h2⟩ := sort_eq l hl
  have HC := Lib.hid (slices_insertionSortOrdered_int.calls k P v l 0 l.length r w0 w hB ho hr)
  have H1 := Lib.hid h1
  have H2 := Lib.hid h2
  clear h1 h2 hr hB ho
  go_enter Try.func80, Try.ntmps80
  go_wp2
  refine wp_loop_once ?_
  go_wp2_with (go_at_call 84; refine HC.out.mono ?_; rintro e w' ⟨rfl, hR, hB', _⟩)
  go_end0
  exact ⟨r, rfl, H1.out, H2.out, R_any hR, hB'⟩

theorem sort_small (P : Nat → Prop) (w0 w : World) (v : Value) (l : List Int) (hB : Below w0.heap.size w0 w) (ho : Kd.R (Kd.int .i64) 3 w w0.heap.size P v l) (hl : l.length ≤ 12) :
    Calls Try.prog 72 #[v] w (Sorts w0 v l) := by
  have HC := fun lim => Lib.hid (pdq_small P w0 w v l lim hB ho hl)
  obtain ⟨A, cap, rfl, hcap, _⟩ := IntR.shape ho
  clear ho hB
  go_enter Try.func72, Try.ntmps72
  go_wp2_with (first
    | (go_at_call 81; refine (len_small _ l.length hl).mono ?_; rintro e w' ⟨r, rfl, rfl⟩)
    | (go_at_call 80; refine (HC _).out.mono ?_; rintro e w' ⟨r, rfl, hr⟩))
  go_end0
  exact ⟨r, rfl, hr⟩
end Go.Proofs.Ytibdjmmhdggpfaa
