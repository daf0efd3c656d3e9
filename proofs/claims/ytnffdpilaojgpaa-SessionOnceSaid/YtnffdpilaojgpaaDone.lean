/-
  Contracts of the table's Done.
-/
import Derived.Test.YtnffdpilaojgpaaTable
namespace Go.Proofs.Ytnffdpilaojgpaa
set_option linter.unusedVariables false
set_option linter.unusedSimpArgs false
open Go.RowKit Go.Maps Go.Proofs.YtnffdpilaojgpaaW.PrintWords Go.Proofs.YtnffdpilaojgpaaW.PrintMore Go.Proofs.Ytnffdpilaojgpaa.PSessionOnce Go.Proofs.Ytnffdpilaojgpaa.fmap

/-- It says no. -/
def Refuses (w : World) (e : Ending) (w' : World) : Prop := ∃ k, e = .returned (.int .i64 k) ∧ k ≠ 0 ∧ Below w.heap.size w w'
/-- It is noted. -/
def Notes (w : World) (tm n : Nat) (f : Lit → Option Value) (k q : Int) (x : S35) (e : Ending) (w' : World) : Prop :=
  e = .returned (.int .i64 0) ∧ ∃ A' c', FM w' Try.prog 29 tm (n + 1) (fput f (.int .u64 k) (some (av q x A' c'))) ∧ UC w' A' x.f3 ∧ x.f3.length ≤ c' ∧ w.grownBy w' (some tm)

set_option maxRecDepth 100000 in
set_option maxHeartbeats 1600000 in
theorem done_old (w : World) (b tm : Nat) (hc : w.cell? ⟨b, 0, none⟩ = some (.map (some tm))) {k q' q : Int} {x0 : S35} {A0 : Option Addr} {c0 : Nat} {is : Bool} (hL : Looks w tm k q' x0 A0 c0 is) (hq : q ≤ q') (x : S35) (A : Option Addr) (c : Nat) :
    Calls Try.prog 12 #[.pointer (some ⟨b, 0, none⟩), .int .u64 k, .int .u64 q, rv x A c] w (Refuses w) := by
  have HL := Lib.hid hL
  have hlt := World.block_lt_of_cell? _ _ hc
  have hc' := (Below.cell (alloc_below w (.cells (rc x (.slice A x.f3.length c)) 35)) (p := ⟨b, 0, none⟩) hlt).trans hc
  have HN := Lib.hid (heap_alloc_new w (.cells (rc x (.slice A x.f3.length c)) 35))
  clear hL
  by_cases h1 : k < 1
  · go_enter Try.func12, Try.ntmps12
    go_wp2_with (go_at_call 26; refine (none_some _ _ _ hc').mono ?_; rintro e w1 ⟨rfl, rfl⟩)
    go_ret
    exact ⟨2, rfl, by decide, alloc_below _ _⟩
  by_cases h8 : 8 < k
  · go_enter Try.func12, Try.ntmps12
    go_wp2_with (go_at_call 26; refine (none_some _ _ _ hc').mono ?_; rintro e w1 ⟨rfl, rfl⟩)
    go_ret
    exact ⟨2, rfl, by decide, alloc_below _ _⟩
  go_enter Try.func12, Try.ntmps12
  go_wp2_with (first
    | (go_at_call 26; refine (none_some _ _ _ hc').mono ?_; rintro e w1 ⟨rfl, rfl⟩)
    | (go_at_call 28; refine (sound_any _ x A c).mono ?_; rintro e w2 ⟨sb, rfl, hb2⟩; have hb := (alloc_below w _).trans (hb2.mono (by simp)); have hc2 := (hb.cell (p := ⟨b, 0, none⟩) hlt).trans hc; cases sb)
    | (go_at_call 14; refine (last_ok _ b tm hc2 (HL.out.below hb)).mono ?_; rintro e w3 ⟨rfl, rfl⟩))
  all_goals
    go_ret
    first | exact ⟨2, rfl, by decide, hb⟩ | exact ⟨34, rfl, by decide, hb⟩

set_option maxRecDepth 100000 in
set_option maxHeartbeats 1600000 in
theorem done_new (w : World) (b tm n : Nat) (f : Lit → Option Value) (hc : w.cell? ⟨b, 0, none⟩ = some (.map (some tm))) (hm : FM w Try.prog 29 tm n f) (hn : n ≤ 1000) {k q' q : Int} (hk : (Lit.int .u64 k).wf = true) {x0 : S35} {A0 : Option Addr} {c0 : Nat} {is : Bool} (hL : Looks w tm k q' x0 A0 c0 is) (hq : q' < q) (x : S35) (A : Option Addr) (c : Nat) (hU : UC w A x.f3) (hcp : x.f3.length ≤ c) (hlen : x.f3.length ≤ 1000) :
    Calls Try.prog 12 #[.pointer (some ⟨b, 0, none⟩), .int .u64 k, .int .u64 q, rv x A c] w fun e w' => Refuses w e w' ∨ Notes w tm n f k q x e w' := by
  have HL := Lib.hid hL
  have hlt := World.block_lt_of_cell? _ _ hc
  have hc' := (Below.cell (alloc_below w (.cells (rc x (.slice A x.f3.length c)) 35)) (p := ⟨b, 0, none⟩) hlt).trans hc
  have HN := Lib.hid (heap_alloc_new w (.cells (rc x (.slice A x.f3.length c)) 35))
  have HM := Lib.hid hm
  have hkey := keyOf_int_mk Try.underlying29 hk
  have HC := fun w1 hb => Lib.hid (copy_ok w1 x A c (hU.below hb) hcp hlen)
  have hq2 : ¬ q ≤ q' := by omega
  clear hL hU hm
  by_cases h1 : k < 1
  · go_enter Try.func12, Try.ntmps12
    go_wp2_with (go_at_call 26; refine (none_some _ _ _ hc').mono ?_; rintro e w1 ⟨rfl, rfl⟩)
    go_ret
    exact .inl ⟨2, rfl, by decide, alloc_below _ _⟩
  by_cases h8 : 8 < k
  · go_enter Try.func12, Try.ntmps12
    go_wp2_with (go_at_call 26; refine (none_some _ _ _ hc').mono ?_; rintro e w1 ⟨rfl, rfl⟩)
    go_ret
    exact .inl ⟨2, rfl, by decide, alloc_below _ _⟩
  go_enter Try.func12, Try.ntmps12
  go_wp2_with (first
    | (go_at_call 26; refine (none_some _ _ _ hc').mono ?_; rintro e w1 ⟨rfl, rfl⟩)
    | (go_at_call 28; refine (sound_any _ x A c).mono ?_; rintro e w2 ⟨sb, rfl, hb2⟩; have hb := (alloc_below w _).trans (hb2.mono (by simp)); have hc2 := (hb.cell (p := ⟨b, 0, none⟩) hlt).trans hc; have BK := Lib.hid (blk_below HN.out hb2); cases sb)
    | (go_at_call 14; refine (last_ok _ b tm hc2 (HL.out.below hb)).mono ?_; rintro e w3 ⟨rfl, rfl⟩))
  · go_ret
    exact .inl ⟨2, rfl, by decide, hb⟩
  · have HB := Lib.hid hb
    have HC2 := Lib.hid hc2
    have K2 := Lib.hid (show (fun W : World => W.cell? ⟨w.heap.size, 0, none⟩ = some (.int .i64 x.f0) ∧ W.cell? ⟨w.heap.size, 1, none⟩ = some (.int .i64 x.f1) ∧ W.cell? ⟨w.heap.size, 2, none⟩ = some (.int .u64 x.f2.f0) ∧ W.cell? ⟨w.heap.size, 3, none⟩ = some (.int .i64 x.f2.f1) ∧ W.cell? ⟨w.heap.size, 4, none⟩ = some (.int .i64 x.f2.f2) ∧ W.cell? ⟨w.heap.size, 5, none⟩ = some (.int .i64 x.f2.f3) ∧ W.cell? ⟨w.heap.size, 6, none⟩ = some (.int .u64 x.f2.f4) ∧ W.cell? ⟨w.heap.size, 7, none⟩ = some (.int .i64 x.f2.f5) ∧ W.cell? ⟨w.heap.size, 8, none⟩ = some (.int .i64 x.f2.f6) ∧ W.cell? ⟨w.heap.size, 9, none⟩ = some (.int .i64 x.f2.f7) ∧ W.cell? ⟨w.heap.size, 10, none⟩ = some (.int .i64 x.f2.f8) ∧ W.cell? ⟨w.heap.size, 11, none⟩ = some (.slice A x.f3.length c) ∧ W.cell? ⟨w.heap.size, 12, none⟩ = some (.int .u64 x.f4) ∧ W.cell? ⟨w.heap.size, 13, none⟩ = some (.int .i64 x.f5) ∧ W.cell? ⟨b, 0, none⟩ = some (.map (some tm))) w2.drew from ⟨blk_cell BK.out 0, blk_cell BK.out 1, blk_cell BK.out 2, blk_cell BK.out 3, blk_cell BK.out 4, blk_cell BK.out 5, blk_cell BK.out 6, blk_cell BK.out 7, blk_cell BK.out 8, blk_cell BK.out 9, blk_cell BK.out 10, blk_cell BK.out 11, blk_cell BK.out 12, blk_cell BK.out 13, HC2.out⟩)
    have hbt := Lib.hid (show b ≠ tm by rintro rfl; rw [HM.out.cell ⟨b, 0, none⟩ rfl] at hc; cases hc)
    have htl := HM.out.lt
    clear hb hc2 hb2
    go_region_held3 (fun W => W.cell? ⟨w.heap.size, 0, none⟩ = some (.int .i64 x.f0) ∧ W.cell? ⟨w.heap.size, 1, none⟩ = some (.int .i64 x.f1) ∧ W.cell? ⟨w.heap.size, 2, none⟩ = some (.int .u64 x.f2.f0) ∧ W.cell? ⟨w.heap.size, 3, none⟩ = some (.int .i64 x.f2.f1) ∧ W.cell? ⟨w.heap.size, 4, none⟩ = some (.int .i64 x.f2.f2) ∧ W.cell? ⟨w.heap.size, 5, none⟩ = some (.int .i64 x.f2.f3) ∧ W.cell? ⟨w.heap.size, 6, none⟩ = some (.int .u64 x.f2.f4) ∧ W.cell? ⟨w.heap.size, 7, none⟩ = some (.int .i64 x.f2.f5) ∧ W.cell? ⟨w.heap.size, 8, none⟩ = some (.int .i64 x.f2.f6) ∧ W.cell? ⟨w.heap.size, 9, none⟩ = some (.int .i64 x.f2.f7) ∧ W.cell? ⟨w.heap.size, 10, none⟩ = some (.int .i64 x.f2.f8) ∧ W.cell? ⟨w.heap.size, 11, none⟩ = some (.slice A x.f3.length c) ∧ W.cell? ⟨w.heap.size, 12, none⟩ = some (.int .u64 x.f4) ∧ W.cell? ⟨w.heap.size, 13, none⟩ = some (.int .i64 x.f5) ∧ W.cell? ⟨b, 0, none⟩ = some (.map (some tm)))
      (first | exact K2.out | exact K3.out | exact K5.out)
      (first
      | (go_at_call 27; (with_reducible refine (HC w2.drew (HB.out.drew)).out.mono ?_); rintro e w3 ⟨A', c', rfl, hU', hc3, hfr, hb3⟩; have K3 := Lib.hid (show (fun W : World => W.cell? ⟨w.heap.size, 0, none⟩ = some (.int .i64 x.f0) ∧ W.cell? ⟨w.heap.size, 1, none⟩ = some (.int .i64 x.f1) ∧ W.cell? ⟨w.heap.size, 2, none⟩ = some (.int .u64 x.f2.f0) ∧ W.cell? ⟨w.heap.size, 3, none⟩ = some (.int .i64 x.f2.f1) ∧ W.cell? ⟨w.heap.size, 4, none⟩ = some (.int .i64 x.f2.f2) ∧ W.cell? ⟨w.heap.size, 5, none⟩ = some (.int .i64 x.f2.f3) ∧ W.cell? ⟨w.heap.size, 6, none⟩ = some (.int .u64 x.f2.f4) ∧ W.cell? ⟨w.heap.size, 7, none⟩ = some (.int .i64 x.f2.f5) ∧ W.cell? ⟨w.heap.size, 8, none⟩ = some (.int .i64 x.f2.f6) ∧ W.cell? ⟨w.heap.size, 9, none⟩ = some (.int .i64 x.f2.f7) ∧ W.cell? ⟨w.heap.size, 10, none⟩ = some (.int .i64 x.f2.f8) ∧ W.cell? ⟨w.heap.size, 11, none⟩ = some (.slice A x.f3.length c) ∧ W.cell? ⟨w.heap.size, 12, none⟩ = some (.int .u64 x.f4) ∧ W.cell? ⟨w.heap.size, 13, none⟩ = some (.int .i64 x.f5) ∧ W.cell? ⟨b, 0, none⟩ = some (.map (some tm))) w3 from ⟨blk_cell (blk_below (blk_drew BK.out) hb3) 0, blk_cell (blk_below (blk_drew BK.out) hb3) 1, blk_cell (blk_below (blk_drew BK.out) hb3) 2, blk_cell (blk_below (blk_drew BK.out) hb3) 3, blk_cell (blk_below (blk_drew BK.out) hb3) 4, blk_cell (blk_below (blk_drew BK.out) hb3) 5, blk_cell (blk_below (blk_drew BK.out) hb3) 6, blk_cell (blk_below (blk_drew BK.out) hb3) 7, blk_cell (blk_below (blk_drew BK.out) hb3) 8, blk_cell (blk_below (blk_drew BK.out) hb3) 9, blk_cell (blk_below (blk_drew BK.out) hb3) 10, blk_cell (blk_below (blk_drew BK.out) hb3) 11, blk_cell (blk_below (blk_drew BK.out) hb3) 12, blk_cell (blk_below (blk_drew BK.out) hb3) 13, ((hb3.cell (p := ⟨b, 0, none⟩) (Nat.lt_of_lt_of_le hlt HB.out.size)).trans HC2.out)⟩); obtain ⟨w5, hmu, hfm, hgr, hsz⟩ := FM.stores (((HM.out.kept (nob_iff.1 HB.out) (by simp)).drew).kept (nob_iff.1 hb3) (by simp)) law29 Try.underlying64 (by unfold maxLen; omega) hkey (av q x A' c'); have K5 := Lib.hid (show (fun W : World => W.cell? ⟨w.heap.size, 0, none⟩ = some (.int .i64 x.f0) ∧ W.cell? ⟨w.heap.size, 1, none⟩ = some (.int .i64 x.f1) ∧ W.cell? ⟨w.heap.size, 2, none⟩ = some (.int .u64 x.f2.f0) ∧ W.cell? ⟨w.heap.size, 3, none⟩ = some (.int .i64 x.f2.f1) ∧ W.cell? ⟨w.heap.size, 4, none⟩ = some (.int .i64 x.f2.f2) ∧ W.cell? ⟨w.heap.size, 5, none⟩ = some (.int .i64 x.f2.f3) ∧ W.cell? ⟨w.heap.size, 6, none⟩ = some (.int .u64 x.f2.f4) ∧ W.cell? ⟨w.heap.size, 7, none⟩ = some (.int .i64 x.f2.f5) ∧ W.cell? ⟨w.heap.size, 8, none⟩ = some (.int .i64 x.f2.f6) ∧ W.cell? ⟨w.heap.size, 9, none⟩ = some (.int .i64 x.f2.f7) ∧ W.cell? ⟨w.heap.size, 10, none⟩ = some (.int .i64 x.f2.f8) ∧ W.cell? ⟨w.heap.size, 11, none⟩ = some (.slice A x.f3.length c) ∧ W.cell? ⟨w.heap.size, 12, none⟩ = some (.int .u64 x.f4) ∧ W.cell? ⟨w.heap.size, 13, none⟩ = some (.int .i64 x.f5) ∧ W.cell? ⟨b, 0, none⟩ = some (.map (some tm))) w5 from ⟨blk_cell (blk_grown (blk_below (blk_drew BK.out) hb3) hgr (by simp; omega)) 0, blk_cell (blk_grown (blk_below (blk_drew BK.out) hb3) hgr (by simp; omega)) 1, blk_cell (blk_grown (blk_below (blk_drew BK.out) hb3) hgr (by simp; omega)) 2, blk_cell (blk_grown (blk_below (blk_drew BK.out) hb3) hgr (by simp; omega)) 3, blk_cell (blk_grown (blk_below (blk_drew BK.out) hb3) hgr (by simp; omega)) 4, blk_cell (blk_grown (blk_below (blk_drew BK.out) hb3) hgr (by simp; omega)) 5, blk_cell (blk_grown (blk_below (blk_drew BK.out) hb3) hgr (by simp; omega)) 6, blk_cell (blk_grown (blk_below (blk_drew BK.out) hb3) hgr (by simp; omega)) 7, blk_cell (blk_grown (blk_below (blk_drew BK.out) hb3) hgr (by simp; omega)) 8, blk_cell (blk_grown (blk_below (blk_drew BK.out) hb3) hgr (by simp; omega)) 9, blk_cell (blk_grown (blk_below (blk_drew BK.out) hb3) hgr (by simp; omega)) 10, blk_cell (blk_grown (blk_below (blk_drew BK.out) hb3) hgr (by simp; omega)) 11, blk_cell (blk_grown (blk_below (blk_drew BK.out) hb3) hgr (by simp; omega)) 12, blk_cell (blk_grown (blk_below (blk_drew BK.out) hb3) hgr (by simp; omega)) 13, hgr.cell ((hb3.cell (p := ⟨b, 0, none⟩) (Nat.lt_of_lt_of_le hlt HB.out.size)).trans HC2.out) (by intro e; exact hbt.out (by simpa using e))⟩)))
    all_goals
      go_wp2
      go_ret
      have hB3 : Below w.heap.size w w3 := HB.out.drew.trans (hb3.mono HB.out.size)
      exact .inr ⟨rfl, A', c', hfm, hU'.store (HM.out.kept (nob_iff.1 hB3) (by simp)) hgr, hc3, ((nob_iff.1 hB3).but _).andThen hgr (by intro j e; cases e; exact .inr rfl)⟩
set_option maxRecDepth 100000 in
set_option maxHeartbeats 1600000 in
theorem done_sure (w : World) (b tm n : Nat) (f : Lit → Option Value) (hc : w.cell? ⟨b, 0, none⟩ = some (.map (some tm))) (hm : FM w Try.prog 29 tm n f) (hn : n ≤ 1000) {k q' q : Int} (hk : (Lit.int .u64 k).wf = true) {x0 : S35} {A0 : Option Addr} {c0 : Nat} {is : Bool} (hL : Looks w tm k q' x0 A0 c0 is) (hq : q' < q) (x : S35) (A : Option Addr) (c : Nat) (hU : UC w A x.f3) (hcp : x.f3.length ≤ c) (hlen : x.f3.length ≤ 1000) (h1 : 1 ≤ k) (h8 : k ≤ 8) (hS : ∀ w1, Calls Try.prog 28 #[rv x A c] w1 fun e w' => e = .returned (.bool true) ∧ Below w1.heap.size w1 w') :
    Calls Try.prog 12 #[.pointer (some ⟨b, 0, none⟩), .int .u64 k, .int .u64 q, rv x A c] w (Notes w tm n f k q x) := by
  have HL := Lib.hid hL
  have hlt := World.block_lt_of_cell? _ _ hc
  have hc' := (Below.cell (alloc_below w (.cells (rc x (.slice A x.f3.length c)) 35)) (p := ⟨b, 0, none⟩) hlt).trans hc
  have HN := Lib.hid (heap_alloc_new w (.cells (rc x (.slice A x.f3.length c)) 35))
  have HM := Lib.hid hm
  have hkey := keyOf_int_mk Try.underlying29 hk
  have HC := fun w1 hb => Lib.hid (copy_ok w1 x A c (hU.below hb) hcp hlen)
  have hq2 : ¬ q ≤ q' := by omega
  clear hL hU hm
  have HS := fun w1 => Lib.hid (hS w1)
  clear hS
  go_enter Try.func12, Try.ntmps12
  go_wp2_with (first
    | (go_at_call 26; refine (none_some _ _ _ hc').mono ?_; rintro e w1 ⟨rfl, rfl⟩)
    | (go_at_call 28; refine (HS _).out.mono ?_; rintro e w2 ⟨rfl, hb2⟩; have hb := (alloc_below w _).trans (hb2.mono (by simp)); have hc2 := (hb.cell (p := ⟨b, 0, none⟩) hlt).trans hc; have BK := Lib.hid (blk_below HN.out hb2))
    | (go_at_call 14; refine (last_ok _ b tm hc2 (HL.out.below hb)).mono ?_; rintro e w3 ⟨rfl, rfl⟩))
  have HB := Lib.hid hb
  have HC2 := Lib.hid hc2
  have K2 := Lib.hid (show (fun W : World => W.cell? ⟨w.heap.size, 0, none⟩ = some (.int .i64 x.f0) ∧ W.cell? ⟨w.heap.size, 1, none⟩ = some (.int .i64 x.f1) ∧ W.cell? ⟨w.heap.size, 2, none⟩ = some (.int .u64 x.f2.f0) ∧ W.cell? ⟨w.heap.size, 3, none⟩ = some (.int .i64 x.f2.f1) ∧ W.cell? ⟨w.heap.size, 4, none⟩ = some (.int .i64 x.f2.f2) ∧ W.cell? ⟨w.heap.size, 5, none⟩ = some (.int .i64 x.f2.f3) ∧ W.cell? ⟨w.heap.size, 6, none⟩ = some (.int .u64 x.f2.f4) ∧ W.cell? ⟨w.heap.size, 7, none⟩ = some (.int .i64 x.f2.f5) ∧ W.cell? ⟨w.heap.size, 8, none⟩ = some (.int .i64 x.f2.f6) ∧ W.cell? ⟨w.heap.size, 9, none⟩ = some (.int .i64 x.f2.f7) ∧ W.cell? ⟨w.heap.size, 10, none⟩ = some (.int .i64 x.f2.f8) ∧ W.cell? ⟨w.heap.size, 11, none⟩ = some (.slice A x.f3.length c) ∧ W.cell? ⟨w.heap.size, 12, none⟩ = some (.int .u64 x.f4) ∧ W.cell? ⟨w.heap.size, 13, none⟩ = some (.int .i64 x.f5) ∧ W.cell? ⟨b, 0, none⟩ = some (.map (some tm))) w2.drew from ⟨blk_cell BK.out 0, blk_cell BK.out 1, blk_cell BK.out 2, blk_cell BK.out 3, blk_cell BK.out 4, blk_cell BK.out 5, blk_cell BK.out 6, blk_cell BK.out 7, blk_cell BK.out 8, blk_cell BK.out 9, blk_cell BK.out 10, blk_cell BK.out 11, blk_cell BK.out 12, blk_cell BK.out 13, HC2.out⟩)
  have hbt := Lib.hid (show b ≠ tm by rintro rfl; rw [HM.out.cell ⟨b, 0, none⟩ rfl] at hc; cases hc)
  have htl := HM.out.lt
  clear hb hc2 hb2
  go_region_held3 (fun W => W.cell? ⟨w.heap.size, 0, none⟩ = some (.int .i64 x.f0) ∧ W.cell? ⟨w.heap.size, 1, none⟩ = some (.int .i64 x.f1) ∧ W.cell? ⟨w.heap.size, 2, none⟩ = some (.int .u64 x.f2.f0) ∧ W.cell? ⟨w.heap.size, 3, none⟩ = some (.int .i64 x.f2.f1) ∧ W.cell? ⟨w.heap.size, 4, none⟩ = some (.int .i64 x.f2.f2) ∧ W.cell? ⟨w.heap.size, 5, none⟩ = some (.int .i64 x.f2.f3) ∧ W.cell? ⟨w.heap.size, 6, none⟩ = some (.int .u64 x.f2.f4) ∧ W.cell? ⟨w.heap.size, 7, none⟩ = some (.int .i64 x.f2.f5) ∧ W.cell? ⟨w.heap.size, 8, none⟩ = some (.int .i64 x.f2.f6) ∧ W.cell? ⟨w.heap.size, 9, none⟩ = some (.int .i64 x.f2.f7) ∧ W.cell? ⟨w.heap.size, 10, none⟩ = some (.int .i64 x.f2.f8) ∧ W.cell? ⟨w.heap.size, 11, none⟩ = some (.slice A x.f3.length c) ∧ W.cell? ⟨w.heap.size, 12, none⟩ = some (.int .u64 x.f4) ∧ W.cell? ⟨w.heap.size, 13, none⟩ = some (.int .i64 x.f5) ∧ W.cell? ⟨b, 0, none⟩ = some (.map (some tm)))
    (first | exact K2.out | exact K3.out | exact K5.out)
    (first
    | (go_at_call 27; (with_reducible refine (HC w2.drew (HB.out.drew)).out.mono ?_); rintro e w3 ⟨A', c', rfl, hU', hc3, hfr, hb3⟩; have K3 := Lib.hid (show (fun W : World => W.cell? ⟨w.heap.size, 0, none⟩ = some (.int .i64 x.f0) ∧ W.cell? ⟨w.heap.size, 1, none⟩ = some (.int .i64 x.f1) ∧ W.cell? ⟨w.heap.size, 2, none⟩ = some (.int .u64 x.f2.f0) ∧ W.cell? ⟨w.heap.size, 3, none⟩ = some (.int .i64 x.f2.f1) ∧ W.cell? ⟨w.heap.size, 4, none⟩ = some (.int .i64 x.f2.f2) ∧ W.cell? ⟨w.heap.size, 5, none⟩ = some (.int .i64 x.f2.f3) ∧ W.cell? ⟨w.heap.size, 6, none⟩ = some (.int .u64 x.f2.f4) ∧ W.cell? ⟨w.heap.size, 7, none⟩ = some (.int .i64 x.f2.f5) ∧ W.cell? ⟨w.heap.size, 8, none⟩ = some (.int .i64 x.f2.f6) ∧ W.cell? ⟨w.heap.size, 9, none⟩ = some (.int .i64 x.f2.f7) ∧ W.cell? ⟨w.heap.size, 10, none⟩ = some (.int .i64 x.f2.f8) ∧ W.cell? ⟨w.heap.size, 11, none⟩ = some (.slice A x.f3.length c) ∧ W.cell? ⟨w.heap.size, 12, none⟩ = some (.int .u64 x.f4) ∧ W.cell? ⟨w.heap.size, 13, none⟩ = some (.int .i64 x.f5) ∧ W.cell? ⟨b, 0, none⟩ = some (.map (some tm))) w3 from ⟨blk_cell (blk_below (blk_drew BK.out) hb3) 0, blk_cell (blk_below (blk_drew BK.out) hb3) 1, blk_cell (blk_below (blk_drew BK.out) hb3) 2, blk_cell (blk_below (blk_drew BK.out) hb3) 3, blk_cell (blk_below (blk_drew BK.out) hb3) 4, blk_cell (blk_below (blk_drew BK.out) hb3) 5, blk_cell (blk_below (blk_drew BK.out) hb3) 6, blk_cell (blk_below (blk_drew BK.out) hb3) 7, blk_cell (blk_below (blk_drew BK.out) hb3) 8, blk_cell (blk_below (blk_drew BK.out) hb3) 9, blk_cell (blk_below (blk_drew BK.out) hb3) 10, blk_cell (blk_below (blk_drew BK.out) hb3) 11, blk_cell (blk_below (blk_drew BK.out) hb3) 12, blk_cell (blk_below (blk_drew BK.out) hb3) 13, ((hb3.cell (p := ⟨b, 0, none⟩) (Nat.lt_of_lt_of_le hlt HB.out.size)).trans HC2.out)⟩); obtain ⟨w5, hmu, hfm, hgr, hsz⟩ := FM.stores (((HM.out.kept (nob_iff.1 HB.out) (by simp)).drew).kept (nob_iff.1 hb3) (by simp)) law29 Try.underlying64 (by unfold maxLen; omega) hkey (av q x A' c'); have K5 := Lib.hid (show (fun W : World => W.cell? ⟨w.heap.size, 0, none⟩ = some (.int .i64 x.f0) ∧ W.cell? ⟨w.heap.size, 1, none⟩ = some (.int .i64 x.f1) ∧ W.cell? ⟨w.heap.size, 2, none⟩ = some (.int .u64 x.f2.f0) ∧ W.cell? ⟨w.heap.size, 3, none⟩ = some (.int .i64 x.f2.f1) ∧ W.cell? ⟨w.heap.size, 4, none⟩ = some (.int .i64 x.f2.f2) ∧ W.cell? ⟨w.heap.size, 5, none⟩ = some (.int .i64 x.f2.f3) ∧ W.cell? ⟨w.heap.size, 6, none⟩ = some (.int .u64 x.f2.f4) ∧ W.cell? ⟨w.heap.size, 7, none⟩ = some (.int .i64 x.f2.f5) ∧ W.cell? ⟨w.heap.size, 8, none⟩ = some (.int .i64 x.f2.f6) ∧ W.cell? ⟨w.heap.size, 9, none⟩ = some (.int .i64 x.f2.f7) ∧ W.cell? ⟨w.heap.size, 10, none⟩ = some (.int .i64 x.f2.f8) ∧ W.cell? ⟨w.heap.size, 11, none⟩ = some (.slice A x.f3.length c) ∧ W.cell? ⟨w.heap.size, 12, none⟩ = some (.int .u64 x.f4) ∧ W.cell? ⟨w.heap.size, 13, none⟩ = some (.int .i64 x.f5) ∧ W.cell? ⟨b, 0, none⟩ = some (.map (some tm))) w5 from ⟨blk_cell (blk_grown (blk_below (blk_drew BK.out) hb3) hgr (by simp; omega)) 0, blk_cell (blk_grown (blk_below (blk_drew BK.out) hb3) hgr (by simp; omega)) 1, blk_cell (blk_grown (blk_below (blk_drew BK.out) hb3) hgr (by simp; omega)) 2, blk_cell (blk_grown (blk_below (blk_drew BK.out) hb3) hgr (by simp; omega)) 3, blk_cell (blk_grown (blk_below (blk_drew BK.out) hb3) hgr (by simp; omega)) 4, blk_cell (blk_grown (blk_below (blk_drew BK.out) hb3) hgr (by simp; omega)) 5, blk_cell (blk_grown (blk_below (blk_drew BK.out) hb3) hgr (by simp; omega)) 6, blk_cell (blk_grown (blk_below (blk_drew BK.out) hb3) hgr (by simp; omega)) 7, blk_cell (blk_grown (blk_below (blk_drew BK.out) hb3) hgr (by simp; omega)) 8, blk_cell (blk_grown (blk_below (blk_drew BK.out) hb3) hgr (by simp; omega)) 9, blk_cell (blk_grown (blk_below (blk_drew BK.out) hb3) hgr (by simp; omega)) 10, blk_cell (blk_grown (blk_below (blk_drew BK.out) hb3) hgr (by simp; omega)) 11, blk_cell (blk_grown (blk_below (blk_drew BK.out) hb3) hgr (by simp; omega)) 12, blk_cell (blk_grown (blk_below (blk_drew BK.out) hb3) hgr (by simp; omega)) 13, hgr.cell ((hb3.cell (p := ⟨b, 0, none⟩) (Nat.lt_of_lt_of_le hlt HB.out.size)).trans HC2.out) (by intro e; exact hbt.out (by simpa using e))⟩)))
  all_goals
    go_wp2
    go_ret
    have hB3 : Below w.heap.size w w3 := HB.out.drew.trans (hb3.mono HB.out.size)
    exact ⟨rfl, A', c', hfm, hU'.store (HM.out.kept (nob_iff.1 hB3) (by simp)) hgr, hc3, ((nob_iff.1 hB3).but _).andThen hgr (by intro j e; cases e; exact .inr rfl)⟩

end Go.Proofs.Ytnffdpilaojgpaa
