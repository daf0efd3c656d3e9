/-
  Contracts of the poll's Note where it counts, of who said so, and of State.
-/
import Derived.Test.YtibdjmmhdggpfaaPoll2
import Derived.Deep.RegionHeld3
namespace Go.Proofs.Ytibdjmmhdggpfaa
set_option linter.unusedVariables false
set_option linter.unusedSimpArgs false
open Go.RowKit Go.Maps Go.Proofs.YtibdjmmhdggpfaaW.PrintWords Go.Proofs.YtibdjmmhdggpfaaW.PrintMore Go.Proofs.Ytibdjmmhdggpfaa.PPollPlays Go.Proofs.Ytibdjmmhdggpfaa.pure Go.Proofs.Ytibdjmmhdggpfaa.fmap

theorem tell_no (said : Int → Int) (x : Int) : fput (tell said) (.int .i64 x) (some (.int .i64 2)) = tell (note said x false) := tell_put said x 2 (by decide)
theorem tell_yes (said : Int → Int) (x : Int) : fput (tell (note said x false)) (.int .i64 x) (some (.int .i64 1)) = tell (note said x true) := by
  rw [tell_put _ x 1 (by decide)]
  congr 1
  funext y
  unfold note
  by_cases e : y = x <;> simp [e]

theorem grown_two {w w1 w2 w3 : World} {bm : Nat} (hb : Below w.heap.size w w1) (h1 : w1.grownBy w2 (some bm)) (h2 : w2.grownBy w3 (some bm)) : w.grownBy w3 (some bm) :=
  (((nob_iff.1 hb).but (some bm)).andThen h1 (by intro j e; cases e; exact .inr rfl)).andThen h2 (by intro j e; cases e; exact .inr rfl)
theorem grown_one {w w1 w2 : World} {bm : Nat} (hb : Below w.heap.size w w1) (h1 : w1.grownBy w2 (some bm)) : w.grownBy w2 (some bm) :=
  ((nob_iff.1 hb).but (some bm)).andThen h1 (by intro j e; cases e; exact .inr rfl)
/-- A poll whose map has been turned. -/
theorem PAt.turned {w w' : World} {b bm : Nat} {A : Option Addr} {c : Nat} {mem : List Int} {said said' : Int → Int} {n n' : Nat} (h : PAt w b bm A c mem said n) (hg : w.grownBy w' (some bm)) (hm : FM w' Try.prog 3 bm n' (tell said')) (ho : Ok mem said') :
    PAt w' b bm A c mem said' n' :=
  ⟨(hg.block b h.lt (fun e => by cases e; exact h.ne rfl)).trans h.blk, h.memC.kept hg (h.memC.map_ne (snd_ne h.sndT) h.map), h.cap, hm, h.sndT, ho⟩

theorem pnote_yes (w : World) (b bm : Nat) (A : Option Addr) (c : Nat) (mem : List Int) (said : Int → Int) (n : Nat) (h : PAt w b bm A c mem said n) (hn : n ≤ 1000) (x : Int) (ok : Bool) (hx : counts mem said x = true) :
    Calls Try.prog 15 #[.pointer (some ⟨b, 0, none⟩), .int .i64 x, .bool ok] w fun e w' => e = .returned (.bool true) ∧ PAt w' b bm A c mem (note said x ok) (n + 2) ∧ w.grownBy w' (some bm) := by
  have hxx : x ∈ mem ∧ said x = 0 := by unfold counts at hx; simpa using hx
  have h0 := h.c0
  have h1 := h.c1
  have hsz := h.size
  have HM := fun w1 hb => Lib.hid (mhas w1 A c mem (h.memC.below hb) h.cap (by omega) x)
  have hd : decide (x ∈ mem) = true := by simpa using hxx.1
  rw [hd] at HM
  have HE := Lib.hid hxx
  have HH := Lib.hid h
  have hkey := keyOf_int_mk Try.underlying3 (wf_node h.sndT hxx.1)
  have hlt := h.lt
  have hne := h.ne
  clear hd hx h hxx
  have look : ∀ w1 : World, Below w.heap.size w w1 → (Instr.lookup 44 (.map (some bm)) (.int .i64 x) false).run Try.prog w1 = .ok (.int .i64 0) w1 := fun w1 hb => by
    rw [look3 (HH.out.below hb).map x (wf_node HH.out.sndT HE.out.1), HE.out.2]
  have HL := Lib.hid look
  clear look
  cases ok with
  | false =>
    go_enter Try.func15, Try.ntmps15
    go_wp2_with (first
      | (go_at_call 45; refine (none_some _ _ _ h1).mono ?_; rintro e w1 ⟨rfl, rfl⟩)
      | (go_at_call 46; refine (HM _ (Below.refl _ _)).out.mono ?_; rintro e w1 ⟨rfl, hb⟩; have h2 := (hb.cell (p := ⟨b, 1, none⟩) hlt).trans h1; have hl := HL.out _ hb)
      | (at_mapUpdate; refine wpList_store _ rfl _ _ _ 44 rfl 3 3 law3 Try.underlying44 bm n (tell said) rfl (HH.out.below hb).map (by unfold maxLen; omega) _ (.int .i64 2) _ rfl rfl hkey ?_; intro w2 hm2 hg2 _))
    go_ret
    have hg := grown_one hb hg2
    refine ⟨rfl, HH.out.turned hg ?_ (HH.out.ok.note HE.out.1 false), hg⟩
    rw [← tell_no]
    exact hm2.mono (by omega)
  | true =>
    go_enter Try.func15, Try.ntmps15
    go_wp2_with (first
      | (go_at_call 45; refine (none_some _ _ _ h1).mono ?_; rintro e w1 ⟨rfl, rfl⟩)
      | (go_at_call 46; refine (HM _ (Below.refl _ _)).out.mono ?_; rintro e w1 ⟨rfl, hb⟩; have h2 := (hb.cell (p := ⟨b, 1, none⟩) hlt).trans h1; have hl := HL.out _ hb)
      | (at_mapUpdate; refine wpList_store _ rfl _ _ _ 44 rfl 3 3 law3 Try.underlying44 bm n (tell said) rfl (HH.out.below hb).map (by unfold maxLen; omega) _ (.int .i64 2) _ rfl rfl hkey ?_; intro w2 hm2 hg2 _; have h3 := hg2.cell h2 (by simpa using hne))
      | (at_mapUpdate; refine wpList_store _ rfl _ _ _ 44 rfl 3 3 law3 Try.underlying44 bm (n + 1) _ rfl hm2 (by unfold maxLen; omega) _ (.int .i64 1) _ rfl rfl hkey ?_; intro w3 hm3 hg3 _))
    go_ret
    have hg := grown_two hb hg2 hg3
    refine ⟨rfl, HH.out.turned hg ?_ (HH.out.ok.note HE.out.1 true), hg⟩
    rw [tell_no, tell_yes] at hm3
    exact hm3

theorem nodup_len : ∀ (l m : List Int), l.Nodup → (∀ x ∈ l, x ∈ m) → l.length ≤ m.length
  | [], m, _, _ => Nat.zero_le _
  | x :: l, m, hn, hs => by
    obtain ⟨h1, h2⟩ := List.nodup_cons.1 hn
    have hx : x ∈ m := hs x (by simp)
    have := nodup_len l (m.erase x) h2 (fun y hy => (List.mem_erase_of_ne (by intro e; subst e; exact h1 hy)).2 (hs y (by simp [hy])))
    rw [List.length_erase_of_mem hx] at this
    have := List.length_pos_of_mem hx
    simp only [List.length_cons]
    omega

/-- What holds at the head of each round over what was said. -/
structure Coll (w : World) (bm n : Nat) (said : Int → Int) (what : Int) (v : Value) (left : Lit → Bool) (cnt : Nat) (l : List Int) (wr : World) : Prop where
  own : wr.ownsRow w.heap.size 3 1 v l.length (l.map (Value.int .i64))
  rng : FR wr Try.prog 3 bm w.heap.size n (tell said) left cnt
  nodup : l.Nodup
  mem : ∀ x, x ∈ l ↔ said x = what ∧ left (.int .i64 x) = false
  bel : Below w.heap.size w wr

theorem Coll.len {w wr : World} {bm n : Nat} {said : Int → Int} {what : Int} {v : Value} {left : Lit → Bool} {cnt : Nat} {l : List Int} (C : Coll w bm n said what v left cnt l wr) {mem : List Int} (ho : Ok mem said) (hs : snd mem = true) (hw : what ≠ 0) : l.length ≤ 7 :=
  Nat.le_trans (nodup_len l mem C.nodup (fun x hx => ho.mem x (by rw [((C.mem x).1 hx).1]; exact hw))) (snd_length hs).2
theorem lit_ne {x y : Int} (h : x ≠ y) : (Lit.int .i64 y).sameKey (.int .i64 x) = false := sameKey_ne (fun e => h (by cases e; rfl))
theorem lit_eq (x : Int) : (Lit.int .i64 x).sameKey (.int .i64 x) = true := WideAt.sameKey_self trivial
theorem Coll.ne {w wr : World} {bm n : Nat} {said : Int → Int} {what : Int} {v : Value} {left : Lit → Bool} {cnt : Nat} {l : List Int} (C : Coll w bm n said what v left cnt l wr) : v.ownBlock ≠ some w.heap.size := by
  intro e
  obtain ⟨D, ⟨es, clock, since, seen, c0, _, _, _, _, hr, _⟩, _⟩ := C.rng
  rcases C.own.2 with ⟨rfl, _⟩ | ⟨g, cap, cur, rfl, _, hh, _⟩
  · simp [Value.ownBlock] at e
  · simp [Value.ownBlock] at e
    subst e
    rw [hr] at hh
    cases hh
/-- One that said something else has come. -/
theorem Coll.pass {w wr w1 : World} {bm n : Nat} {said : Int → Int} {what : Int} {v : Value} {left : Lit → Bool} {cnt cnt' : Nat} {l : List Int} (C : Coll w bm n said what v left cnt l wr) {x : Int}
    (hr : FR w1 Try.prog 3 bm w.heap.size n (tell said) (fun z => left z && !z.sameKey (.int .i64 x)) cnt') (hg : wr.grownBy w1 (some w.heap.size)) (hx : said x ≠ what) :
    Coll w bm n said what v (fun z => left z && !z.sameKey (.int .i64 x)) cnt' l w1 where
  own := C.own.kept hg (.inr C.ne)
  rng := hr
  nodup := C.nodup
  mem := fun y => by
    rw [C.mem y]
    by_cases e : x = y
    · subst e
      simp [hx]
    · simp [lit_ne e]
  bel := C.bel.grown hg C.bel.size (by intro k e; cases e; exact Nat.le_refl _)
/-- One that said so has come, and has been taken. -/
theorem Coll.take {w wr w1 w2 : World} {bm n : Nat} {said : Int → Int} {what : Int} {v v' : Value} {left : Lit → Bool} {cnt cnt' : Nat} {l : List Int} {o : Obj} (C : Coll w bm n said what v left cnt l wr) {x : Int}
    (hr : FR w1 Try.prog 3 bm w.heap.size n (tell said) (fun z => left z && !z.sameKey (.int .i64 x)) cnt') (hg : wr.grownBy w1 (some w.heap.size)) (hx : said x = what) (hl : left (.int .i64 x) = true) (hbm : bm < w.heap.size)
    (hown : w2.ownsRow w.heap.size 3 1 v' (l.length + 1) (l.map (Value.int .i64) ++ [.int .i64 x])) (hg2 : (w1.alloc o).grownBy w2 v.ownBlock) :
    Coll w bm n said what v' (fun z => left z && !z.sameKey (.int .i64 x)) cnt' (l ++ [x]) w2 where
  own := by simpa using hown
  rng := (hr.alloc o).kept hg2 (fun e => by have := C.own.lt bm e; omega) C.ne
  nodup := by
    refine List.nodup_append.2 ⟨C.nodup, by simp, fun a ha b hb e => ?_⟩
    simp only [List.mem_singleton] at hb
    subst hb e
    have := ((C.mem a).1 ha).2
    rw [hl] at this
    cases this
  mem := fun y => by
    rw [List.mem_append, C.mem y, List.mem_singleton]
    by_cases e : x = y
    · subst e
      simp [hx, lit_eq]
    · have e' : ¬ y = x := fun h => e h.symm
      simp [lit_ne e, e']
  bel := by
    have b1 := C.bel.grown hg C.bel.size (by intro k e; cases e; exact Nat.le_refl _)
    have b2 := b1.alloc b1.size o
    exact b2.grown hg2 b2.size (fun k e => (C.own.lt k e).1)

set_option maxRecDepth 100000 in
theorem pwho (w : World) (b bm : Nat) (A : Option Addr) (c : Nat) (mem : List Int) (said : Int → Int) (n : Nat) (h : PAt w b bm A c mem said n) (what : Int) (hw : what = 1 ∨ what = 2) :
    Calls Try.prog 49 #[.pointer (some ⟨b, 0, none⟩), .int .i64 what] w (Gives w (who said what)) := by
  obtain ⟨i0, hi, hz0, hz1, hz2⟩ := info_parts infoI
  have h1 := h.c1
  have hlt := h.map.lt
  have hm := h.map
  have HO := Lib.hid h.ok
  have HS := Lib.hid h.sndT
  have HW := Lib.hid hw
  clear h hw
  go_enter Try.func49, Try.ntmps49
  go_wp2_with (first
    | (go_at_call 45; refine (none_some _ _ _ h1).mono ?_; rintro e w1 ⟨rfl, rfl⟩)
    | (at_range; refine wpList_range _ rfl _ 44 rfl 3 3 law3 Try.underlying44 bm n (tell said) rfl hm ?_; intro w0 cnt0 hr0 hg0 hs0))
  go_frame
  go_loopw [4, 5, 6] (fun v _ _ wr => ∃ (left : Lit → Bool) (cnt : Nat) (l : List Int), Coll w bm n said what v left cnt l wr) (fun _ _ _ wr => wr.rangeLeft bm w.heap.size)
  case atStart =>
    refine ⟨_, cnt0, [], World.ownsRow_nil _ _ _ _, hr0, List.nodup_nil, fun x => ?_, nob_iff.2 hg0⟩
    have hw := HW.out
    simp [tell]
    intro e
    subst e
    rcases hw with hw | hw <;> simp [hw]
  case round =>
    obtain ⟨left, cnt, l, C⟩ := hrel
    have HC := Lib.hid C
    have hlen := C.len HO.out HS.out (by rcases HW.out with h | h <;> rw [h] <;> decide)
    have hrng := C.rng
    have hown := C.own
    clear C hr0 hg0 hs0
    go_wp2_with (at_next; refine wpList_next _ rfl _ rfl 3 .i64 law3 Try.underlying3 bm w.heap.size n _ _ _ rfl hrng ?_ ?_)
    · intro hl0
      have C := HC.out
      have hS := Lib.hid (sort_small (fun _ => True) w wr u4 l C.bel (intR_of_owns C.own) (by omega))
      have HL := Lib.hid hl0
      clear C hl0 hrng hown
      go_wp2_with (go_at_call 72; refine hS.out.mono ?_; rintro e w2 ⟨r, rfl, hr1, hr2, hr3, hr4⟩)
      go_ret
      have hrow : r = who said what := sorted_row hr1 hr2 HC.out.nodup _ (fun x => by
        rw [HC.out.mem x, HL.out]
        have hw := HW.out
        constructor
        · rintro ⟨e, _⟩
          exact ⟨((snd_iff mem).1 HS.out).2.2 x (HO.out.mem x (by rcases hw with h | h <;> rw [e, h] <;> decide)), by simpa using e⟩
        · rintro ⟨_, e⟩
          exact ⟨by simpa using e, rfl⟩)
      subst hrow
      exact ⟨_, rfl, hr3, hr4⟩
    · intro x y w1 cnt1 hwx hlx hfx hr1 hlt1 hg1 hs1 hen
      have hy : y = .int .i64 (said x) := by
        unfold tell at hfx
        simp only at hfx
        split at hfx
        · cases hfx
        · exact (Option.some.inj hfx).symm
      subst hy
      have hmeas := hr1.left_eq
      have hmeas0 := hrng.left_eq
      clear hfx
      by_cases hq : said x = what
      · have hb1 : (said x == what) = true := by simpa using hq
        have HQ := Lib.hid hq
        clear hq
        have hown1 := hown.kept hg1 (.inr HC.out.ne)
        have hsz1 : w.heap.size ≤ w1.heap.size := by have := HC.out.bel.size; omega
        have HR := Lib.hid hr1
        have HX := Lib.hid hlx
        have HM := Lib.hid hmeas
        have HM0 := Lib.hid hmeas0
        clear hr1 hlx hwx hrng hmeas hmeas0 hown hs1
        go_wp2_with (at_builtin; refine wpList_append_own _ rfl _ _ 22 rfl w.heap.size 3 i0 (.int .i64 0) 1 8 Try.underlying22 hi hz0 hz1 hz2 rfl (by decide) _ _ _ rfl (hown1.alloc _) ⟨w1.heap.size, 0, none⟩ 1 1 [.int .i64 x] rfl rfl (cell_one_new _ _ _) (ints_oneCell .i64 [x]) (by unfold maxLen; omega) (by omega) (by simp; omega) ?_)
        intro v' w2 hown' hgrow _
        have CT := HC.out.take HR.out hg1 HQ.out HX.out hlt hown' hgrow
        clear hown' hgrow hown1 hen hg1
        go_wp2
        go_roundw
        case rel => exact ⟨_, _, _, CT⟩
        case measure => rw [CT.rng.left_eq, HM0.out]; exact hlt1
      · have hb1 : (said x == what) = false := by simpa using hq
        have CT := HC.out.pass hr1 hg1 hq
        have HM := Lib.hid hmeas
        have HM0 := Lib.hid hmeas0
        clear hq hr1 hlx hwx hrng hmeas hmeas0 hown hg1 hs1
        go_wp2
        go_roundw
        case rel => exact ⟨_, _, _, CT⟩
        case measure => rw [CT.rng.left_eq, HM0.out]; exact hlt1

theorem pyes (w : World) (b bm : Nat) (A : Option Addr) (c : Nat) (mem : List Int) (said : Int → Int) (n : Nat) (h : PAt w b bm A c mem said n) :
    Calls Try.prog 19 #[.pointer (some ⟨b, 0, none⟩)] w (Gives w (who said 1)) := by
  have HC := Lib.hid (pwho w b bm A c mem said n h 1 (.inl rfl))
  clear h
  go_enter Try.func19, Try.ntmps19
  go_wp2_with (go_at_call 49; refine HC.out.mono ?_; rintro e w1 ⟨v, rfl, h1, h2⟩)
  go_ret
  exact ⟨_, rfl, h1, h2⟩
theorem pno (w : World) (b bm : Nat) (A : Option Addr) (c : Nat) (mem : List Int) (said : Int → Int) (n : Nat) (h : PAt w b bm A c mem said n) :
    Calls Try.prog 20 #[.pointer (some ⟨b, 0, none⟩)] w (Gives w (who said 2)) := by
  have HC := Lib.hid (pwho w b bm A c mem said n h 2 (.inr rfl))
  clear h
  go_enter Try.func20, Try.ntmps20
  go_wp2_with (go_at_call 49; refine HC.out.mono ?_; rintro e w1 ⟨v, rfl, h1, h2⟩)
  go_ret
  exact ⟨_, rfl, h1, h2⟩

theorem PAt.drew {w : World} {b bm : Nat} {A : Option Addr} {c : Nat} {mem : List Int} {said : Int → Int} {n : Nat} (h : PAt w b bm A c mem said n) : PAt w.drew b bm A c mem said n :=
  ⟨h.blk, h.memC, h.cap, h.map.drew, h.sndT, h.ok⟩
theorem below_undrew {w w' : World} (h : Below w.drew.heap.size w.drew w') : Below w.heap.size w w' := ⟨h.os, h.tape, h.output, h.size, h.block⟩

set_option maxHeartbeats 800000 in
theorem pstate (w : World) (b bm : Nat) (A : Option Addr) (c : Nat) (mem : List Int) (said : Int → Int) (n : Nat) (h : PAt w b bm A c mem said n) :
    Calls Try.prog 16 #[.pointer (some ⟨b, 0, none⟩)] w fun e w' => e = .returned (.int .i64 (state mem said)) ∧ Below w.heap.size w w' := by
  have h0 := h.c0
  have h1 := h.c1
  have hsz := h.size
  have hl1 := who_len said 1
  have hl2 := who_len said 2
  have HH := Lib.hid h
  have HQ := Lib.hid (mquorum w A c mem h.memC h.cap (by omega))
  have hlt := h.lt
  clear h
  have st : state mem said = if quo mem ≤ (who said 1).length then 2 else if (mem.length : Int) - (who said 2).length < quo mem then 3 else 1 := rfl
  have ST := Lib.hid st
  clear st
  generalize hq : quo mem = q at HQ ST
  clear hq
  have WR : IntKind.i64.wrap ((mem.length : Int) - ((who said 2).length : Int)) = (mem.length : Int) - ((who said 2).length : Int) := by simp [IntKind.wrap, IntKind.bits, IntKind.signed]; omega
  by_cases e1 : q ≤ (who said 1).length
  · have HS := Lib.hid (show state mem said = 2 by rw [ST.out, if_pos e1])
    clear ST
    go_enter Try.func16, Try.ntmps16
    go_wp2_with (first
      | (go_at_call 45; refine (none_some _ _ _ h1).mono ?_; rintro e w1 ⟨rfl, rfl⟩)
      | (go_at_call 47; refine HQ.out.mono ?_; rintro e w1 ⟨rfl, hb1⟩)
      | (go_at_call 19; refine (pyes _ _ _ _ _ _ _ _ (HH.out.below hb1)).mono ?_; rintro e w2 ⟨v, rfl, hv, hb2⟩; obtain ⟨A2, c2, hv2, hc2, hC2⟩ := hv.reads; subst hv2))
    go_ret
    exact ⟨by rw [HS.out]; rfl, hb1.trans (hb2.mono hb1.size)⟩
  by_cases e2 : (mem.length : Int) - (who said 2).length < q
  · have HS := Lib.hid (show state mem said = 3 by rw [ST.out, if_neg e1, if_pos e2])
    clear ST
    go_enter Try.func16, Try.ntmps16
    go_wp2_with (first
      | (go_at_call 45; refine (none_some _ _ _ h1).mono ?_; rintro e w1 ⟨rfl, rfl⟩)
      | (go_at_call 47; refine HQ.out.mono ?_; rintro e w1 ⟨rfl, hb1⟩)
      | (go_at_call 19; refine (pyes _ _ _ _ _ _ _ _ (HH.out.below hb1)).mono ?_; rintro e w2 ⟨v, rfl, hv, hb2⟩; obtain ⟨A2, c2, hv2, hc2, hC2⟩ := hv.reads; subst hv2))
    have hb12 : Below w.heap.size w w2 := hb1.trans (hb2.mono hb1.size)
    have HP := Lib.hid ((HH.out.below hb12).drew)
    have h02 := (hb12.cell (p := ⟨b, 0, none⟩) hlt).trans h0
    go_region_with (go_at_call 20; refine (pno w2.drew _ _ _ _ _ _ _ HP.out).mono ?_; rintro e w3 ⟨v3, rfl, hv3, hb3⟩; obtain ⟨A3, c3, hv3e, _, _⟩ := hv3.reads; subst hv3e; have h03 := (hb3.cell (p := ⟨b, 0, none⟩) (Nat.lt_of_lt_of_le hlt hb12.size)).trans h02)
    all_goals
      go_wp2
      go_ret
      exact ⟨by rw [HS.out]; rfl, hb12.trans ((below_undrew hb3).mono hb12.size)⟩
  · have HS := Lib.hid (show state mem said = 1 by rw [ST.out, if_neg e1, if_neg e2])
    clear ST
    go_enter Try.func16, Try.ntmps16
    go_wp2_with (first
      | (go_at_call 45; refine (none_some _ _ _ h1).mono ?_; rintro e w1 ⟨rfl, rfl⟩)
      | (go_at_call 47; refine HQ.out.mono ?_; rintro e w1 ⟨rfl, hb1⟩)
      | (go_at_call 19; refine (pyes _ _ _ _ _ _ _ _ (HH.out.below hb1)).mono ?_; rintro e w2 ⟨v, rfl, hv, hb2⟩; obtain ⟨A2, c2, hv2, hc2, hC2⟩ := hv.reads; subst hv2))
    have hb12 : Below w.heap.size w w2 := hb1.trans (hb2.mono hb1.size)
    have HP := Lib.hid ((HH.out.below hb12).drew)
    have h02 := (hb12.cell (p := ⟨b, 0, none⟩) hlt).trans h0
    go_region_with (go_at_call 20; refine (pno w2.drew _ _ _ _ _ _ _ HP.out).mono ?_; rintro e w3 ⟨v3, rfl, hv3, hb3⟩; obtain ⟨A3, c3, hv3e, _, _⟩ := hv3.reads; subst hv3e; have h03 := (hb3.cell (p := ⟨b, 0, none⟩) (Nat.lt_of_lt_of_le hlt hb12.size)).trans h02)
    all_goals
      go_wp2
      go_ret
      exact ⟨by rw [HS.out]; rfl, hb12.trans ((below_undrew hb3).mono hb12.size)⟩
end Go.Proofs.Ytibdjmmhdggpfaa
