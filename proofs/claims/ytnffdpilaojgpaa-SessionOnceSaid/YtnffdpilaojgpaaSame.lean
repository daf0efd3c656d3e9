/-
  A reply is the same as one that has its fields and its row.
-/
import Derived.Test.YtnffdpilaojgpaaOnceRel
namespace Go.Proofs.Ytnffdpilaojgpaa
set_option linter.unusedVariables false
set_option linter.unusedSimpArgs false
open Go.RowKit Go.Maps Go.Proofs.YtnffdpilaojgpaaW.PrintWords Go.Proofs.YtnffdpilaojgpaaW.PrintMore Go.Proofs.Ytnffdpilaojgpaa.PSessionOnce Go.Proofs.Ytnffdpilaojgpaa.fmap

theorem wrap_succ (i : Nat) (h : i ≤ 9223372036854775806) : wrap64 ((i : Int) + 1) = ((i + 1 : Nat) : Int) := by unfold wrap64; omega
theorem same_from (a0 a1 a2 a3 a4 a5 a6 a7 a8 a9 a10 a12 a13 : Int) (l : List Int) (hl : l.length ≤ 1000000) : ∀ (d k i : Nat), i + d = l.length → d < k → curfewref19_Same.l0 k i a0 a1 a2 a3 a4 a5 a6 a7 a8 a9 a10 l a12 a13 a0 a1 a2 a3 a4 a5 a6 a7 a8 a9 a10 l a12 a13 = some true
  | 0, k, i, hi, hk => by
    obtain ⟨k, rfl⟩ : ∃ m, k = m + 1 := ⟨k - 1, by omega⟩
    simp only [curfewref19_Same.l0]
    rw [if_neg (by omega)]
  | d + 1, k, i, hi, hk => by
    obtain ⟨k, rfl⟩ : ∃ m, k = m + 1 := ⟨k - 1, by omega⟩
    simp only [curfewref19_Same.l0]
    rw [if_pos (by omega), if_pos (by omega), if_pos (by omega), if_pos trivial, wrap_succ i (by omega)]
    exact same_from a0 a1 a2 a3 a4 a5 a6 a7 a8 a9 a10 a12 a13 l hl d k (i + 1) (by omega) (by omega)
theorem same_eq (a0 a1 a2 a3 a4 a5 a6 a7 a8 a9 a10 a12 a13 : Int) (l : List Int) (hl : l.length ≤ 1000000) : curfewref19_Same.f (l.length + 2) a0 a1 a2 a3 a4 a5 a6 a7 a8 a9 a10 l a12 a13 a0 a1 a2 a3 a4 a5 a6 a7 a8 a9 a10 l a12 a13 = some true := by
  unfold curfewref19_Same.f
  rw [if_pos rfl, if_pos rfl, if_neg (by simp), if_pos rfl, if_pos rfl]
  simp only [curfewref19_Same.j0, bne_self_eq_false, Bool.false_eq_true, if_false]
  exact same_from a0 a1 a2 a3 a4 a5 a6 a7 a8 a9 a10 a12 a13 l hl l.length (l.length + 1) 0 (by omega) (by omega)

theorem same_self (w : World) (x : S35) (A : Option Addr) (c : Nat) (A2 : Option Addr) (c2 : Nat) (h : UC w A x.f3) (hc : x.f3.length ≤ c) (h2 : UC w A2 x.f3) (hc2 : x.f3.length ≤ c2) (hl : x.f3.length ≤ 200) :
    Calls Try.prog 11 #[rv x A c, rv x A2 c2] w fun e w' => e = .returned (.bool true) ∧ Below w.heap.size w w' :=
  curfewref19_Same.calls (x.f3.length + 2) x.f0 x.f1 x.f2.f0 x.f2.f1 x.f2.f2 x.f2.f3 x.f2.f4 x.f2.f5 x.f2.f6 x.f2.f7 x.f2.f8 A c x.f3 x.f4 x.f5 x.f0 x.f1 x.f2.f0 x.f2.f1 x.f2.f2 x.f2.f3 x.f2.f4 x.f2.f5 x.f2.f6 x.f2.f7 x.f2.f8 A2 c2 x.f3 x.f4 x.f5 true w h hc h2 hc2 (same_eq x.f0 x.f1 x.f2.f0 x.f2.f1 x.f2.f2 x.f2.f3 x.f2.f4 x.f2.f5 x.f2.f6 x.f2.f7 x.f2.f8 x.f4 x.f5 x.f3 (by omega))
end Go.Proofs.Ytnffdpilaojgpaa
