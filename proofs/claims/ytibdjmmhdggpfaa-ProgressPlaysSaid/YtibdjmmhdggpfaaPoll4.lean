/-
  The chapter's example; the polls that are none; the document's functions.
-/
import Derived.Test.YtibdjmmhdggpfaaPoll3
namespace Go.Proofs.Ytibdjmmhdggpfaa
set_option linter.unusedVariables false
set_option linter.unusedSimpArgs false
open Go.RowKit Go.Maps Go.Proofs.YtibdjmmhdggpfaaW.PrintWords Go.Proofs.YtibdjmmhdggpfaaW.PrintMore Go.Proofs.Ytibdjmmhdggpfaa.PPollPlays Go.Proofs.Ytibdjmmhdggpfaa.pure Go.Proofs.Ytibdjmmhdggpfaa.fmap

/-- What was said once one has spoken. -/
def say (mem : List Int) (said : Int → Int) (n : Int) (b : Bool) : Int → Int := if counts mem said n then note said n b else said

theorem PAt.any_kept {w w' : World} {b bm : Nat} {A : Option Addr} {c : Nat} {mem : List Int} {said : Int → Int} {n n' : Nat} (h : PAt w b bm A c mem said n) (hn : n ≤ n') : PAt w b bm A c mem said n' :=
  ⟨h.blk, h.memC, h.cap, h.map.mono hn, h.sndT, h.ok⟩

theorem pnote (w : World) (b bm : Nat) (A : Option Addr) (c : Nat) (mem : List Int) (said : Int → Int) (n : Nat) (h : PAt w b bm A c mem said n) (hn : n ≤ 1000) (x : Int) (ok : Bool) :
    Calls Try.prog 15 #[.pointer (some ⟨b, 0, none⟩), .int .i64 x, .bool ok] w fun e w' => e = .returned (.bool (counts mem said x)) ∧ PAt w' b bm A c mem (say mem said x ok) (n + 2) ∧ w.grownBy w' (some bm) := by
  by_cases hx : counts mem said x = true
  · refine (pnote_yes w b bm A c mem said n h hn x ok hx).mono fun e w' he => ?_
    unfold say
    rw [hx, if_pos rfl]
    exact he
  · have hx' : counts mem said x = false := by simpa using hx
    refine (pnote_no w b bm A c mem said n h x ok hx').mono fun e w' ⟨he, hb⟩ => ?_
    unfold say
    rw [hx', if_neg (by simp)]
    exact ⟨he, (h.below hb).any_kept (w' := w') (by omega), (nob_iff.1 hb).but _⟩

theorem three_C (w : World) : IntC (w.alloc (.cells #[.int .i64 0, .int .i64 1, .int .i64 2] 3)) (some ⟨w.heap.size, 0, none⟩) [0, 1, 2] := by
  rw [IntC_iff]
  refine ⟨by simp, fun _ => ⟨_, rfl, fun j hj => ?_⟩⟩
  have hj' : j < 3 := hj
  have : j = 0 ∨ j = 1 ∨ j = 2 := by omega
  have hn := heap_alloc_new w (.cells #[.int .i64 0, .int .i64 1, .int .i64 2] 3)
  rw [Addr.add_lit]
  rcases this with rfl | rfl | rfl <;> (simp only [World.cell?, Nat.zero_add, hn]; rfl)

theorem lives_true (w : World) : Calls Try.prog 11 #[] w fun e w' => e = .returned (.bool true) ∧ Below w.heap.size w w' := by
  have e1 : state [0, 1, 2] (fun _ => 0) = 1 := by decide
  have e2 : state [0, 1, 2] (note (note (fun _ => 0) 0 false) 2 false) = 3 := by decide
  have HA := Lib.hid (new_ok _ _ 3 [0, 1, 2] (three_C w) (by simp) (by simp) (by decide))
  have HS1 := fun w1 b bm A c n h => Lib.hid (pstate w1 b bm A c [0, 1, 2] (fun _ => 0) n h)
  rw [e1] at HS1
  have HS2 := fun w1 b bm A c n h => Lib.hid (pstate w1 b bm A c [0, 1, 2] (note (note (fun _ => 0) 0 false) 2 false) n h)
  rw [e2] at HS2
  clear e1 e2
  go_enter Try.func11, Try.ntmps11
  go_wp2_with (first
    | (go_at_call 12; refine HA.out.mono ?_; rintro e w1 ⟨b, bm, A, c, rfl, HP, hb, hl1, hl2, hl3⟩)
    | (go_at_call 16; (with_reducible refine (HS1 _ _ _ _ _ _ HP).out.mono ?_); rintro e w2 ⟨rfl, hb2⟩; have HP2 := HP.below hb2; clear HP)
    | (go_at_call 15; (with_reducible refine (pnote_yes _ _ _ _ _ _ _ _ HP2 (by omega) 0 false (by decide)).mono ?_); rintro e w3 ⟨rfl, HP3, hg3⟩; clear HP2)
    | (go_at_call 15; (with_reducible refine (pnote_yes _ _ _ _ _ _ _ _ HP3 (by omega) 2 false (by decide)).mono ?_); rintro e w4 ⟨rfl, HP4, hg4⟩; clear HP3)
    | (go_at_call 16; (with_reducible refine (HS2 _ _ _ _ _ _ HP4).out.mono ?_); rintro e w5 ⟨rfl, hb5⟩))
  go_ret
  have b1 : Below w.heap.size w w1 := ((Below.refl _ _).alloc (Nat.le_refl _) _).trans (hb.mono (by simp))
  have hl2' : w.heap.size ≤ bm := by simp at hl2; omega
  have b2 := b1.trans (hb2.mono b1.size)
  have b3 := b2.grown hg3 b2.size (by intro k e; cases e; exact hl2')
  have b4 := b3.grown hg4 b3.size (by intro k e; cases e; exact hl2')
  exact ⟨rfl, b4.trans (hb5.mono b4.size)⟩

/-- A poll that is nil, or that no call made. -/
def Dead (w : World) (p : Value) : Prop := p = .pointer none ∨ ∃ b, p = .pointer (some ⟨b, 0, none⟩) ∧ w.cell? ⟨b, 1, none⟩ = some (.map none)
theorem dead_none (w : World) (p : Value) (h : Dead w p) : Calls Try.prog 45 #[p] w fun e w' => e = .returned (.bool true) ∧ w = w' := by
  rcases h with rfl | ⟨b, rfl, hc⟩
  · exact none_nil w
  · exact none_made w b hc
theorem dead_note (w : World) (p : Value) (h : Dead w p) (x : Int) (ok : Bool) : Calls Try.prog 15 #[p, .int .i64 x, .bool ok] w fun e w' => e = .returned (.bool false) ∧ w = w' := by
  have HD := Lib.hid (dead_none w p h)
  clear h
  go_enter Try.func15, Try.ntmps15
  go_wp2_with (go_at_call 45; refine HD.out.mono ?_; rintro e w1 ⟨rfl, rfl⟩)
  go_ret
  exact ⟨rfl, rfl⟩
theorem dead_state (w : World) (p : Value) (h : Dead w p) : Calls Try.prog 16 #[p] w fun e w' => e = .returned (.int .i64 3) ∧ w = w' := by
  have HD := Lib.hid (dead_none w p h)
  clear h
  go_enter Try.func16, Try.ntmps16
  go_wp2_with (go_at_call 45; refine HD.out.mono ?_; rintro e w1 ⟨rfl, rfl⟩)
  go_ret
  exact ⟨rfl, rfl⟩
theorem dead_who (w : World) (p : Value) (h : Dead w p) (what : Int) : Calls Try.prog 49 #[p, .int .i64 what] w fun e w' => e = .returned (.slice none 0 0) ∧ w = w' := by
  have HD := Lib.hid (dead_none w p h)
  clear h
  go_enter Try.func49, Try.ntmps49
  go_wp2_with (go_at_call 45; refine HD.out.mono ?_; rintro e w1 ⟨rfl, rfl⟩)
  go_ret
  exact ⟨rfl, rfl⟩
theorem dead_yes (w : World) (p : Value) (h : Dead w p) : Calls Try.prog 19 #[p] w fun e w' => e = .returned (.slice none 0 0) ∧ w = w' := by
  have HD := Lib.hid (dead_who w p h 1)
  clear h
  go_enter Try.func19, Try.ntmps19
  go_wp2_with (go_at_call 49; refine HD.out.mono ?_; rintro e w1 ⟨rfl, rfl⟩)
  go_ret
  exact ⟨rfl, rfl⟩
theorem dead_no (w : World) (p : Value) (h : Dead w p) : Calls Try.prog 20 #[p] w fun e w' => e = .returned (.slice none 0 0) ∧ w = w' := by
  have HD := Lib.hid (dead_who w p h 2)
  clear h
  go_enter Try.func20, Try.ntmps20
  go_wp2_with (go_at_call 49; refine HD.out.mono ?_; rintro e w1 ⟨rfl, rfl⟩)
  go_ret
  exact ⟨rfl, rfl⟩

theorem d0_below {w w' : World} (h : Drawn0 w w') : Below w.heap.size w w' := by
  obtain ⟨m, hm⟩ := h
  rw [hm]
  exact ⟨rfl, rfl, rfl, Nat.le_refl _, fun _ _ => rfl⟩

theorem rsound (w : World) (A : Option Addr) (c : Nat) (l : List Int) (h : IntC w A l) (hc : l.length ≤ c) : Calls Try.prog 13 #[.slice A l.length c] w fun e w' => e = .returned (.bool (snd l)) ∧ Below w.heap.size w w' :=
  (curfewref29_Sound.calls 12 A c l (snd l) w h hc (rsound_eq l 12 (by omega))).mono fun e w' he => ⟨he.1, d0_below he.2⟩
theorem rhas (w : World) (A : Option Addr) (c : Nat) (l : List Int) (h : IntC w A l) (hc : l.length ≤ c) (hl : l.length ≤ 100) (n : Int) : Calls Try.prog 43 #[.slice A l.length c, .int .i64 n] w fun e w' => e = .returned (.bool (decide (n ∈ l))) ∧ ∃ m, w' = w.drewN m :=
  (curfewref29_Has.calls (l.length + 8) A c l n _ w h hc (has_eq l n (by omega) _ (by omega))).mono fun e w' he => ⟨he.1, let ⟨m, hm⟩ := he.2; ⟨m, hm⟩⟩
theorem rrow (w : World) (A : Option Addr) (c : Nat) (l : List Int) (h : IntC w A l) (hc : l.length ≤ c) (hl : l.length ≤ 100) (n : Int) : Calls Try.prog 44 #[.slice A l.length c, .int .i64 (-1), .int .i64 n] w (Gives w (rowp (fun x => decide (x = n) || decide (x ∈ l)))) :=
  (curfewref29_Row.calls (l.length + 10) A c l (-1) n _ w h hc (row_eq l n (by omega) _ (by omega))).mono fun e w' he => he
theorem rsame (w : World) (A : Option Addr) (c : Nat) (l : List Int) (h : IntC w A l) (hc : l.length ≤ c) (hl : l.length ≤ 100) (A' : Option Addr) (c' : Nat) (l' : List Int) (h' : IntC w A' l') (hc' : l'.length ≤ c') : Calls Try.prog 18 #[.slice A l.length c, .slice A' l'.length c'] w fun e w' => e = .returned (.bool (decide (l = l'))) ∧ ∃ m, w' = w.drewN m :=
  (curfewref29_Same.calls (l.length + 8) A c l A' c' l' _ w h hc h' hc' (rsame_eq l l' (by omega) _ (by omega))).mono fun e w' he => ⟨he.1, let ⟨m, hm⟩ := he.2; ⟨m, hm⟩⟩

theorem rstate (w : World) (A A1 A2 : Option Addr) (c c1 c2 : Nat) (mem : List Int) (said : Int → Int) (hm : snd mem = true) (ho : Ok mem said) (h : IntC w A mem) (hc : mem.length ≤ c)
    (h1 : IntC w A1 (who said 1)) (hc1 : (who said 1).length ≤ c1) (h2 : IntC w A2 (who said 2)) (hc2 : (who said 2).length ≤ c2) :
    Calls Try.prog 17 #[.agg #[.slice A mem.length c, .slice A1 (who said 1).length c1, .slice A2 (who said 2).length c2]] w fun e w' => e = .returned (.int .i64 (state mem said)) ∧ Below w.heap.size w w' :=
  curfewref32_State.calls 60 A c mem A1 c1 (who said 1) A2 c2 (who said 2) (state mem said) w h hc h1 hc1 h2 hc2 (rstate_eq mem hm said ho 60 (by omega))

/-- What the document's Note leaves. -/
def RNotes (w : World) (A : Option Addr) (c : Nat) (mem : List Int) (said : Int → Int) (x : Int) (ok : Bool) (e : Ending) (w' : World) : Prop :=
  ∃ A1 A2 c1 c2, e = .returned (.tuple #[.agg #[.slice A mem.length c, .slice A1 (who (say mem said x ok) 1).length c1, .slice A2 (who (say mem said x ok) 2).length c2], .bool (counts mem said x)]) ∧
    IntC w' A1 (who (say mem said x ok) 1) ∧ (who (say mem said x ok) 1).length ≤ c1 ∧ IntC w' A2 (who (say mem said x ok) 2) ∧ (who (say mem said x ok) 2).length ≤ c2 ∧ Below w.heap.size w w'

theorem drawn_below (w : World) (m : Nat) : Below w.heap.size w (w.drewN m) := ⟨rfl, rfl, rfl, Nat.le_refl _, fun _ _ => rfl⟩
theorem say_no {mem : List Int} {said : Int → Int} {x : Int} {ok : Bool} (h : counts mem said x = false) : say mem said x ok = said := by unfold say; rw [h, if_neg (by simp)]
theorem say_yes {mem : List Int} {said : Int → Int} {x : Int} {ok : Bool} (h : counts mem said x = true) : say mem said x ok = note said x ok := by unfold say; rw [h, if_pos rfl]
theorem rnotes_no (w w' : World) (A A1 A2 : Option Addr) (c c1 c2 : Nat) (mem : List Int) (said : Int → Int) (h1 : IntC w A1 (who said 1)) (hc1 : (who said 1).length ≤ c1) (h2 : IntC w A2 (who said 2)) (hc2 : (who said 2).length ≤ c2) (x : Int) (ok : Bool) (hx : counts mem said x = false) (hb : Below w.heap.size w w') :
    RNotes w A c mem said x ok (.returned (.tuple #[.agg #[.slice A mem.length c, .slice A1 (who said 1).length c1, .slice A2 (who said 2).length c2], .bool false])) w' := by
  unfold RNotes
  rw [say_no hx, hx]
  exact ⟨A1, A2, c1, c2, rfl, h1.below hb, hc1, h2.below hb, hc2, hb⟩

theorem put3 {W : World} {g : Nat} (h : W.heap[g]? = some (.cells #[.slice none 0 0, .slice none 0 0, .slice none 0 0] 29 (0, 0))) (a b c : Value) :
    (((W.setCell ⟨g, 0, none⟩ a).setCell ⟨g, 1, none⟩ b).setCell ⟨g, 2, none⟩ c).heap[g]? = some (.cells #[a, b, c] 29 (0, 0)) :=
  blk_put (blk_put (blk_put h 0 a rfl) 1 b rfl) 2 c rfl
theorem two_new (w : World) (o1 : Obj) (m : Nat) : (((w.alloc o1).alloc (.cells #[.slice none 0 0, .slice none 0 0, .slice none 0 0] 29)).drewN m).heap[w.heap.size + 1]? = some (.cells #[.slice none 0 0, .slice none 0 0, .slice none 0 0] 29 (0, 0)) := by
  have h := heap_alloc_new (w.alloc o1) (.cells #[.slice none 0 0, .slice none 0 0, .slice none 0 0] 29)
  rw [World.size_alloc] at h
  exact h
set_option maxRecDepth 100000 in
theorem rnote_no (w : World) (A A1 A2 : Option Addr) (c c1 c2 : Nat) (mem : List Int) (said : Int → Int) (hm : snd mem = true) (ho : Ok mem said) (h : IntC w A mem) (hc : mem.length ≤ c)
    (h1 : IntC w A1 (who said 1)) (hc1 : (who said 1).length ≤ c1) (h2 : IntC w A2 (who said 2)) (hc2 : (who said 2).length ≤ c2) (x : Int) (ok : Bool) (hx : counts mem said x = false) :
    Calls Try.prog 14 #[.agg #[.slice A mem.length c, .slice A1 (who said 1).length c1, .slice A2 (who said 2).length c2], .int .i64 x, .bool ok] w (RNotes w A c mem said x ok) := by
  have hu29 := Try.underlying29
  have hsz := (snd_length hm).2
  have hl1 := who_len said 1
  have hl2 := who_len said 2
  have HH := Lib.hid h
  have H1 := Lib.hid h1
  have H2 := Lib.hid h2
  have FIN := fun w' hb => Lib.hid (rnotes_no w w' A A1 A2 c c1 c2 mem said h1 hc1 h2 hc2 x ok hx hb)
  have C0 := fun w1 hb => Lib.hid (rhas w1 A c mem (HH.out.below hb) hc (by omega) x)
  have C1 := fun w1 hb => Lib.hid (rhas w1 A1 c1 (who said 1) (H1.out.below hb) hc1 (by omega) x)
  have C2 := fun w1 hb => Lib.hid (rhas w1 A2 c2 (who said 2) (H2.out.below hb) hc2 (by omega) x)
  have key : x ∈ mem → x ∈ who said 1 ∨ x ∈ who said 2 := fun hxm => by
    have hn : said x ≠ 0 := by intro h0; unfold counts at hx; simp [hxm, h0] at hx
    have hr := ((snd_iff mem).1 hm).2.2 x hxm
    rcases ho.val x with h | h | h
    · exact absurd h hn
    · exact .inl (mem_who.2 ⟨hr, h⟩)
    · exact .inr (mem_who.2 ⟨hr, h⟩)
  clear h h1 h2 HH H1 H2 hx ho hm hsz hl1 hl2
  by_cases e0 : x ∈ mem
  · have k2 := key e0
    clear key
    simp only [e0, decide_true] at C0
    by_cases e1 : x ∈ who said 1
    · simp only [e1, decide_true] at C1
      clear k2 e0 e1 C2
      go_enter Try.func14, Try.ntmps14
      go_wp2_with (first
        | (go_at_call 43; (with_reducible refine (C0 _ (by (repeat (first | assumption | exact Below.refl _ _ | apply below_alloc | apply pw_below_drewN | (refine below_set ?_ (by simp)))))).out.mono ?_); rintro e w1 ⟨rfl, m, rfl⟩)
        | (go_at_call 43; (with_reducible refine (C1 _ (by (repeat (first | assumption | exact Below.refl _ _ | apply below_alloc | apply pw_below_drewN | (refine below_set ?_ (by simp)))))).out.mono ?_); rintro e w1 ⟨rfl, m2, rfl⟩))
      refine bodyPost_ret (results_ct rfl _ _ _ 29 #[(.slice A mem.length c), (.slice A1 (who said 1).length c1), (.slice A2 (who said 2).length c2)] (0, 0) _ rfl (put3 (by (repeat (first | assumption | exact two_new _ _ _ | exact two_new _ _ 0 | refine blk_drewN ?_ _))) _ _ _) Try.underlying29 rfl (by kernel_rfl)) rfl ?_
      exact (FIN _ (by (repeat (first | assumption | exact Below.refl _ _ | apply below_alloc | apply pw_below_drewN | (refine below_set ?_ (by simp)))))).out
    · have e2 : x ∈ who said 2 := k2.resolve_left e1
      simp only [e1, e2, decide_true, decide_false] at C1 C2
      clear k2 e0 e1 e2
      go_enter Try.func14, Try.ntmps14
      go_wp2_with (first
        | (go_at_call 43; (with_reducible refine (C0 _ (by (repeat (first | assumption | exact Below.refl _ _ | apply below_alloc | apply pw_below_drewN | (refine below_set ?_ (by simp)))))).out.mono ?_); rintro e w1 ⟨rfl, m, rfl⟩)
        | (go_at_call 43; (with_reducible refine (C1 _ (by (repeat (first | assumption | exact Below.refl _ _ | apply below_alloc | apply pw_below_drewN | (refine below_set ?_ (by simp)))))).out.mono ?_); rintro e w1 ⟨rfl, m2, rfl⟩)
        | (go_at_call 43; (with_reducible refine (C2 _ (by (repeat (first | assumption | exact Below.refl _ _ | apply below_alloc | apply pw_below_drewN | (refine below_set ?_ (by simp)))))).out.mono ?_); rintro e w1 ⟨rfl, m3, rfl⟩))
      refine bodyPost_ret (results_ct rfl _ _ _ 29 #[(.slice A mem.length c), (.slice A1 (who said 1).length c1), (.slice A2 (who said 2).length c2)] (0, 0) _ rfl (put3 (by (repeat (first | assumption | exact two_new _ _ _ | exact two_new _ _ 0 | refine blk_drewN ?_ _))) _ _ _) Try.underlying29 rfl (by kernel_rfl)) rfl ?_
      exact (FIN _ (by (repeat (first | assumption | exact Below.refl _ _ | apply below_alloc | apply pw_below_drewN | (refine below_set ?_ (by simp)))))).out
  · simp only [e0, decide_false] at C0
    clear key e0 C1 C2
    go_enter Try.func14, Try.ntmps14
    go_wp2_with (go_at_call 43; refine (C0 _ (by (repeat (first | assumption | exact Below.refl _ _ | apply below_alloc | apply pw_below_drewN | (refine below_set ?_ (by simp)))))).out.mono ?_; rintro e w1 ⟨rfl, m, rfl⟩)
    refine bodyPost_ret (results_ct rfl _ _ _ 29 #[(.slice A mem.length c), (.slice A1 (who said 1).length c1), (.slice A2 (who said 2).length c2)] (0, 0) _ rfl (put3 (by (repeat (first | assumption | exact two_new _ _ _ | exact two_new _ _ 0 | refine blk_drewN ?_ _))) _ _ _) Try.underlying29 rfl (by kernel_rfl)) rfl ?_
    exact (FIN _ (by (repeat (first | assumption | exact Below.refl _ _ | apply below_alloc | apply pw_below_drewN | (refine below_set ?_ (by simp)))))).out

theorem row_after {w w2 : World} {x y z : Value} {m : Nat} (hb : Below (((w.alloc (.cells #[x, y, z] 29)).alloc (.cells #[.slice none 0 0, .slice none 0 0, .slice none 0 0] 29)).drewN m).heap.size (((w.alloc (.cells #[x, y, z] 29)).alloc (.cells #[.slice none 0 0, .slice none 0 0, .slice none 0 0] 29)).drewN m) w2) : w2.heap[w.heap.size]? = some (.cells #[x, y, z] 29 (0, 0)) := by
  have h := heap_alloc_new w (.cells #[x, y, z] 29)
  exact blk_below (blk_drewN (blk_alloc h _) _) hb
theorem row_after' {w w2 : World} {x y z : Value} {m : Nat} (hb : Below (((w.alloc (.cells #[x, y, z] 29)).alloc (.cells #[.slice none 0 0, .slice none 0 0, .slice none 0 0] 29)).drewN m).heap.size (((w.alloc (.cells #[x, y, z] 29)).alloc (.cells #[.slice none 0 0, .slice none 0 0, .slice none 0 0] 29)).drewN m) w2) : w2.heap[w.heap.size + 1]? = some (.cells #[.slice none 0 0, .slice none 0 0, .slice none 0 0] 29 (0, 0)) := blk_below (two_new _ _ _) hb
theorem row_after_0 {w w2 : World} {x y z : Value} {m : Nat} (hb : Below (((w.alloc (.cells #[x, y, z] 29)).alloc (.cells #[.slice none 0 0, .slice none 0 0, .slice none 0 0] 29)).drewN m).heap.size (((w.alloc (.cells #[x, y, z] 29)).alloc (.cells #[.slice none 0 0, .slice none 0 0, .slice none 0 0] 29)).drewN m) w2) : w2.cell? ⟨w.heap.size, 0, none⟩ = some x := blk_cell (row_after hb) 0
theorem row_after_1 {w w2 : World} {x y z : Value} {m : Nat} (hb : Below (((w.alloc (.cells #[x, y, z] 29)).alloc (.cells #[.slice none 0 0, .slice none 0 0, .slice none 0 0] 29)).drewN m).heap.size (((w.alloc (.cells #[x, y, z] 29)).alloc (.cells #[.slice none 0 0, .slice none 0 0, .slice none 0 0] 29)).drewN m) w2) : w2.cell? ⟨w.heap.size, 1, none⟩ = some y := blk_cell (row_after hb) 1
theorem row_after_2 {w w2 : World} {x y z : Value} {m : Nat} (hb : Below (((w.alloc (.cells #[x, y, z] 29)).alloc (.cells #[.slice none 0 0, .slice none 0 0, .slice none 0 0] 29)).drewN m).heap.size (((w.alloc (.cells #[x, y, z] 29)).alloc (.cells #[.slice none 0 0, .slice none 0 0, .slice none 0 0] 29)).drewN m) w2) : w2.cell? ⟨w.heap.size, 2, none⟩ = some z := blk_cell (row_after hb) 2
theorem row_after_f {w w2 : World} {x y z : Value} {m : Nat} (hb : Below (((w.alloc (.cells #[x, y, z] 29)).alloc (.cells #[.slice none 0 0, .slice none 0 0, .slice none 0 0] 29)).drewN m).heap.size (((w.alloc (.cells #[x, y, z] 29)).alloc (.cells #[.slice none 0 0, .slice none 0 0, .slice none 0 0] 29)).drewN m) w2) (i : Nat) : w2.frozen? ⟨w.heap.size, i, none⟩ = false := blk_frozen (row_after hb) i
theorem row_after'_0 {w w2 : World} {x y z : Value} {m : Nat} (hb : Below (((w.alloc (.cells #[x, y, z] 29)).alloc (.cells #[.slice none 0 0, .slice none 0 0, .slice none 0 0] 29)).drewN m).heap.size (((w.alloc (.cells #[x, y, z] 29)).alloc (.cells #[.slice none 0 0, .slice none 0 0, .slice none 0 0] 29)).drewN m) w2) (i : Nat) (hi : i < 3) : w2.cell? ⟨w.heap.size + 1, i, none⟩ = some (.slice none 0 0) := by
  rw [blk_cell (row_after' hb)]
  have : i = 0 ∨ i = 1 ∨ i = 2 := by omega
  rcases this with rfl | rfl | rfl <;> rfl
theorem row_after'_f {w w2 : World} {x y z : Value} {m : Nat} (hb : Below (((w.alloc (.cells #[x, y, z] 29)).alloc (.cells #[.slice none 0 0, .slice none 0 0, .slice none 0 0] 29)).drewN m).heap.size (((w.alloc (.cells #[x, y, z] 29)).alloc (.cells #[.slice none 0 0, .slice none 0 0, .slice none 0 0] 29)).drewN m) w2) (i : Nat) : w2.frozen? ⟨w.heap.size + 1, i, none⟩ = false := blk_frozen (row_after' hb) i

theorem IntR.far {w : World} {base : Nat} {v : Value} {l : List Int} (h : IntR w base v l) {p : Addr} (hp : p.block < base) (u : Value) : IntR (w.setCell p u) base v l :=
  intR_of_owns (ownsRow_setCell_below h.owns hp u)
theorem IntR.toC {w : World} {base c : Nat} {A : Option Addr} {l : List Int} (h : IntR w base (.slice A l.length c) l) : IntC w A l := by
  obtain ⟨A', c', e, _, hC⟩ := h.reads
  cases e
  exact hC
theorem R_put {w1 w2 : World} {sz c3 i : Nat} {A3 : Option Addr} {r : List Int} (h : IntR w2 w1.heap.size (.slice A3 r.length c3) r) (hs : sz + 2 ≤ w1.heap.size) (a b x y : Value) :
    IntC ((((w2.setCell ⟨sz, i, none⟩ x).setCell ⟨sz + 1, 0, none⟩ a).setCell ⟨sz + 1, 1, none⟩ b).setCell ⟨sz + 1, 2, none⟩ y) A3 r :=
  ((((h.far (p := ⟨sz, i, none⟩) (by simp; omega) _).far (p := ⟨sz + 1, 0, none⟩) (by simp; omega) _).far (p := ⟨sz + 1, 1, none⟩) (by simp; omega) _).far (p := ⟨sz + 1, 2, none⟩) (by simp; omega) _).toC

theorem rnotes_yes (w w' : World) (A A1 A2 : Option Addr) (c c1 c2 : Nat) (mem l1 l2 : List Int) (said : Int → Int) (x : Int) (ok : Bool) (hx : counts mem said x = true)
    (e1 : l1 = who (note said x ok) 1) (e2 : l2 = who (note said x ok) 2) (h1 : IntC w' A1 l1) (hc1 : l1.length ≤ c1) (h2 : IntC w' A2 l2) (hc2 : l2.length ≤ c2) (hb : Below w.heap.size w w') :
    RNotes w A c mem said x ok (.returned (.tuple #[.agg #[.slice A mem.length c, .slice A1 l1.length c1, .slice A2 l2.length c2], .bool true])) w' := by
  unfold RNotes
  rw [say_yes hx, hx]
  subst e1 e2
  exact ⟨A1, A2, c1, c2, rfl, h1, hc1, h2, hc2, hb⟩

set_option maxRecDepth 100000 in
theorem rnote_yes (w : World) (A A1 A2 : Option Addr) (c c1 c2 : Nat) (mem : List Int) (said : Int → Int) (hm : snd mem = true) (h : IntC w A mem) (hc : mem.length ≤ c)
    (h1 : IntC w A1 (who said 1)) (hc1 : (who said 1).length ≤ c1) (h2 : IntC w A2 (who said 2)) (hc2 : (who said 2).length ≤ c2) (x : Int) (ok : Bool) (hx : counts mem said x = true) :
    Calls Try.prog 14 #[.agg #[.slice A mem.length c, .slice A1 (who said 1).length c1, .slice A2 (who said 2).length c2], .int .i64 x, .bool ok] w (RNotes w A c mem said x ok) := by
  have hu29 := Try.underlying29
  have hsz := (snd_length hm).2
  have hl1 := who_len said 1
  have hl2 := who_len said 2
  have HH := Lib.hid h
  have H1 := Lib.hid h1
  have H2 := Lib.hid h2
  have hxx : x ∈ mem ∧ said x = 0 := by unfold counts at hx; simpa using hx
  have n1 : decide (x ∈ who said 1) = false := by simp [mem_who, hxx.2]
  have n2 : decide (x ∈ who said 2) = false := by simp [mem_who, hxx.2]
  have n0 : decide (x ∈ mem) = true := by simpa using hxx.1
  have C0 := fun w1 hb => Lib.hid (rhas w1 A c mem (HH.out.below hb) hc (by omega) x)
  have C1 := fun w1 hb => Lib.hid (rhas w1 A1 c1 (who said 1) (H1.out.below hb) hc1 (by omega) x)
  have C2 := fun w1 hb => Lib.hid (rhas w1 A2 c2 (who said 2) (H2.out.below hb) hc2 (by omega) x)
  have R1 := fun w1 hb => Lib.hid (rrow w1 A1 c1 (who said 1) (H1.out.below hb) hc1 (by omega) x)
  have R2 := fun w1 hb => Lib.hid (rrow w1 A2 c2 (who said 2) (H2.out.below hb) hc2 (by omega) x)
  rw [n0] at C0
  rw [n1] at C1
  rw [n2] at C2
  have HX := Lib.hid hx
  have HZ := Lib.hid hxx.2
  clear h h1 h2 hx hm hsz hl1 hl2 hxx n0 n1 n2
  cases ok with
  | true =>
    have EQ := Lib.hid (who_note_yes said x 1 (.inl rfl) true (.inl ⟨rfl, rfl⟩) HZ.out)
    have EO := Lib.hid (who_note_other said x 2 true (.inl ⟨rfl, rfl⟩) HZ.out)
    generalize (rowp fun y => decide (y = x) || decide (y ∈ who said 1)) = r at EQ R1
    go_enter Try.func14, Try.ntmps14
    go_wp2_with (first
      | (go_at_call 43; (with_reducible refine (C0 _ (by (repeat (first | assumption | exact Below.refl _ _ | apply below_alloc | apply pw_below_drewN | (refine below_set ?_ (by simp)))))).out.mono ?_); rintro e w1 ⟨rfl, m, rfl⟩)
      | (go_at_call 43; (with_reducible refine (C1 _ (by (repeat (first | assumption | exact Below.refl _ _ | apply below_alloc | apply pw_below_drewN | (refine below_set ?_ (by simp)))))).out.mono ?_); rintro e w1 ⟨rfl, m2, rfl⟩)
      | (go_at_call 43; (with_reducible refine (C2 _ (by (repeat (first | assumption | exact Below.refl _ _ | apply below_alloc | apply pw_below_drewN | (refine below_set ?_ (by simp)))))).out.mono ?_); rintro e w1 ⟨rfl, m3, rfl⟩)
      | (go_at_call 44; ((with_reducible refine (R1 _ (by (repeat (first | assumption | exact Below.refl _ _ | apply below_alloc | apply pw_below_drewN | (refine below_set ?_ (by simp)))))).out.mono ?_); rintro e w2 ⟨v, rfl, hv, hb⟩; obtain ⟨A3, c3, hv3, hc3, hC3⟩ := hv.reads; subst hv3; have z0 := row_after_0 hb; have z1 := row_after_1 hb; have z0 := row_after_0 hb; have z1 := row_after_1 hb; have z2 := row_after_2 hb; have f1 := row_after_f hb 1; have y0 := row_after'_0 hb 0 (by omega); have y1 := row_after'_0 hb 1 (by omega); have y2 := row_after'_0 hb 2 (by omega); have g0 := row_after'_f hb 0; have g1 := row_after'_f hb 1; have g2 := row_after'_f hb 2)))
    have hr2 : (w2.setCell ⟨w.heap.size, 1, none⟩ (.slice A3 r.length c3)).heap[w.heap.size + 1]? = some (.cells #[.slice none 0 0, .slice none 0 0, .slice none 0 0] 29 (0, 0)) := blk_far (row_after' hb) (by simp) _
    have hB : Below w.heap.size w w2 := (show Below w.heap.size w _ by (repeat (first | assumption | exact Below.refl _ _ | apply below_alloc | apply pw_below_drewN | (refine below_set ?_ (by simp))))).trans (hb.mono (by simp; omega))
    refine bodyPost_ret (results_ct rfl _ _ _ 29 #[(.slice A mem.length c), ((.slice A3 r.length c3)), ((.slice A2 (who said 2).length c2))] (0, 0) _ rfl (put3 (by (repeat (first | assumption | exact two_new _ _ _ | exact two_new _ _ 0 | refine blk_drewN ?_ _))) _ _ _) Try.underlying29 rfl (by kernel_rfl)) rfl ?_
    have hBB : Below w.heap.size w ((((w2.setCell ⟨w.heap.size, 1, none⟩ (.slice A3 r.length c3)).setCell ⟨w.heap.size + 1, 0, none⟩ (.slice A mem.length c)).setCell ⟨w.heap.size + 1, 1, none⟩ (.slice A3 r.length c3)).setCell ⟨w.heap.size + 1, 2, none⟩ (.slice A2 (who said 2).length c2)) := by (repeat (first | assumption | exact Below.refl _ _ | apply below_alloc | apply pw_below_drewN | (refine below_set ?_ (by simp))))
    exact rnotes_yes w _ A _ _ c _ _ mem _ _ said x _ HX.out EQ.out EO.out.symm (R_put hv (by simp) _ _ _ _) hc3 (H2.out.below hBB) hc2 hBB
  | false =>
    have EQ := Lib.hid (who_note_yes said x 2 (.inr rfl) false (.inr ⟨rfl, rfl⟩) HZ.out)
    have EO := Lib.hid (who_note_other said x 1 false (.inr ⟨rfl, rfl⟩) HZ.out)
    generalize (rowp fun y => decide (y = x) || decide (y ∈ who said 2)) = r at EQ R2
    go_enter Try.func14, Try.ntmps14
    go_wp2_with (first
      | (go_at_call 43; (with_reducible refine (C0 _ (by (repeat (first | assumption | exact Below.refl _ _ | apply below_alloc | apply pw_below_drewN | (refine below_set ?_ (by simp)))))).out.mono ?_); rintro e w1 ⟨rfl, m, rfl⟩)
      | (go_at_call 43; (with_reducible refine (C1 _ (by (repeat (first | assumption | exact Below.refl _ _ | apply below_alloc | apply pw_below_drewN | (refine below_set ?_ (by simp)))))).out.mono ?_); rintro e w1 ⟨rfl, m2, rfl⟩)
      | (go_at_call 43; (with_reducible refine (C2 _ (by (repeat (first | assumption | exact Below.refl _ _ | apply below_alloc | apply pw_below_drewN | (refine below_set ?_ (by simp)))))).out.mono ?_); rintro e w1 ⟨rfl, m3, rfl⟩)
      | (go_at_call 44; ((with_reducible refine (R2 _ (by (repeat (first | assumption | exact Below.refl _ _ | apply below_alloc | apply pw_below_drewN | (refine below_set ?_ (by simp)))))).out.mono ?_); rintro e w2 ⟨v, rfl, hv, hb⟩; obtain ⟨A3, c3, hv3, hc3, hC3⟩ := hv.reads; subst hv3; have z0 := row_after_0 hb; have z1 := row_after_1 hb; have z0 := row_after_0 hb; have z1 := row_after_1 hb; have z2 := row_after_2 hb; have f1 := row_after_f hb 2; have y0 := row_after'_0 hb 0 (by omega); have y1 := row_after'_0 hb 1 (by omega); have y2 := row_after'_0 hb 2 (by omega); have g0 := row_after'_f hb 0; have g1 := row_after'_f hb 1; have g2 := row_after'_f hb 2)))
    have hr2 : (w2.setCell ⟨w.heap.size, 2, none⟩ (.slice A3 r.length c3)).heap[w.heap.size + 1]? = some (.cells #[.slice none 0 0, .slice none 0 0, .slice none 0 0] 29 (0, 0)) := blk_far (row_after' hb) (by simp) _
    have hB : Below w.heap.size w w2 := (show Below w.heap.size w _ by (repeat (first | assumption | exact Below.refl _ _ | apply below_alloc | apply pw_below_drewN | (refine below_set ?_ (by simp))))).trans (hb.mono (by simp; omega))
    refine bodyPost_ret (results_ct rfl _ _ _ 29 #[(.slice A mem.length c), ((.slice A1 (who said 1).length c1)), ((.slice A3 r.length c3))] (0, 0) _ rfl (put3 (by (repeat (first | assumption | exact two_new _ _ _ | exact two_new _ _ 0 | refine blk_drewN ?_ _))) _ _ _) Try.underlying29 rfl (by kernel_rfl)) rfl ?_
    have hBB : Below w.heap.size w ((((w2.setCell ⟨w.heap.size, 2, none⟩ (.slice A3 r.length c3)).setCell ⟨w.heap.size + 1, 0, none⟩ (.slice A mem.length c)).setCell ⟨w.heap.size + 1, 1, none⟩ (.slice A1 (who said 1).length c1)).setCell ⟨w.heap.size + 1, 2, none⟩ (.slice A3 r.length c3)) := by (repeat (first | assumption | exact Below.refl _ _ | apply below_alloc | apply pw_below_drewN | (refine below_set ?_ (by simp))))
    exact rnotes_yes w _ A _ _ c _ _ mem _ _ said x _ HX.out EO.out.symm EQ.out (H1.out.below hBB) hc1 (R_put hv (by simp) _ _ _ _) hc3 hBB
end Go.Proofs.Ytibdjmmhdggpfaa
