/-
  maps.DeleteFunc over a table's map; slices of numbers beside a table.
-/
import Derived.Test.YtibdjmmhdggpfaaGOps
namespace Go.Proofs.Ytibdjmmhdggpfaa
set_option linter.unusedVariables false
set_option linter.unusedSimpArgs false
open Go.RowKit Go.Maps Go.Proofs.YtibdjmmhdggpfaaW.PrintWords Go.Proofs.YtibdjmmhdggpfaaW.PrintMore Go.Proofs.Ytibdjmmhdggpfaa.PPollPlays Go.Proofs.Ytibdjmmhdggpfaa.pure Go.Proofs.Ytibdjmmhdggpfaa.fmap

section
variable {P : Program} (w : World) {ops : Array Oper} {rest : List Oper} {o : Oper} {a : Act} {Q : Exit → Act → World → Prop}
/-- 'delete(m, k)' while m is ranged over. -/
theorem wpList_strike (hg : o.guard = none) (m x : Operand) (t k : TypeId) (hop : o.op = Op.call { callee := Callee.builtin Builtin.delete, args := #[m, x], argTypes := #[t, k] })
    (e : TypeId) (K : Keyed P k) (ht : P.underlying t = some (.map k e)) (b r n : Nat) (f : Lit → Option Value) (left : Lit → Bool) (cnt : Nat)
    (hm : a.eval m = .map (some b)) (h : FR w P k b r n f left cnt) (key : Value) (kl : Lit) (hx : a.eval x = key) (hkey : keyOf P k key = some kl)
    (hK : ∀ w' cnt', FR w' P k b r n (fput f kl none) (fun z => left z && !z.sameKey kl) cnt' → cnt' ≤ cnt → w.grownBy w' (some b) → w'.heap.size = w.heap.size → wpList P ops Q rest (a.put o.dst (.tuple #[])) w') :
    wpList P ops Q (o :: rest) a w := by
  obtain ⟨D, h, rfl⟩ := h
  exact wpList_delete_ranges w hg m x t k hop e K ht held b r n D left cnt hm h key kl hx hkey (fun w' cnt' h' hc hg' =>
    hK w' cnt' ⟨_, h', view_del.symm⟩ hc hg'.grown (by obtain ⟨es, clock, es', clock', _, rfl⟩ := hg'; simp [Go.ChangeMaps.setBlock]))
end

/-- What is still there of f while those of del are struck. -/
def cur (del : Int → Bool) (f : Lit → Option Value) (left : Lit → Bool) : Lit → Option Value
  | .int .i64 x => if del x = true ∧ left (.int .i64 x) = false then none else f (.int .i64 x)
  | z => f z
theorem cur_start (del : Int → Bool) (f : Lit → Option Value) : cur del f (fun z => (f z).isSome) = f := by
  funext z
  unfold cur
  split
  · next x =>
    split
    · next h => have := h.2; simp at this; exact this.symm
    · rfl
  · rfl
theorem cur_stays (del : Int → Bool) (f : Lit → Option Value) (left : Lit → Bool) (x : Int) (hd : del x = false) : cur del f left = cur del f (fun z => left z && !z.sameKey (.int .i64 x)) := by
  funext z
  unfold cur
  split
  · next y =>
    by_cases e : y = x
    · subst e
      simp [hd]
    · simp [lit_ne (Ne.symm e)]
  · rfl
theorem cur_struck (del : Int → Bool) (f : Lit → Option Value) (left : Lit → Bool) (x : Int) (hd : del x = true) : fput (cur del f left) (.int .i64 x) none = cur del f (fun z => left z && !z.sameKey (.int .i64 x)) := by
  funext z
  by_cases e : z = .int .i64 x
  · subst e
    rw [fput_same]
    simp [cur, hd, lit_eq]
  · rw [fput_other _ _ e]
    unfold cur
    split
    · next y =>
      have : y ≠ x := fun h => e (by rw [h])
      simp [lit_ne (Ne.symm this)]
    · rfl
/-- What DeleteFunc leaves. -/
def Dels (w : World) (bm : Nat) (f : Lit → Option Value) (e : Ending) (w' : World) : Prop := e = .returned (.tuple #[]) ∧ FM w' Try.prog 3 bm 7 f ∧ w.grownBy w' (some bm)

set_option maxRecDepth 100000 in
set_option maxHeartbeats 2000000 in
theorem delete_ok (w : World) (bm g : Nat) (cb : Array Value) (f : Lit → Option Value) (del : Int → Bool) (h : FM w Try.prog 3 bm 7 f)
    (hdel : ∀ (W : World) (x : Int) (v : Value), w.grownBy W (some bm) → Calls Try.prog 65 (#[.int .i64 x, v] ++ cb) W fun e w' => e = .returned (.bool (del x)) ∧ Below W.heap.size W w') :
    Calls Try.prog 64 #[.map (some bm), .func (.func 65) #[] cb] w (Dels w bm (cur del f (fun _ => false))) := by
  have HD := Lib.hid hdel
  have hlt := h.lt
  clear hdel
  go_enter Try.func64, Try.ntmps64
  go_wp2_with (at_range; refine wpList_range _ rfl _ 75 rfl 3 92 law3 Try.underlying75 bm 7 f rfl h ?_; intro w0 cnt0 hr0 hg0 hs0)
  go_frame
  go_loopw [8] (fun _ wr => ∃ (left : Lit → Bool) (cnt : Nat), FR wr Try.prog 3 bm w.heap.size 7 (cur del f left) left cnt ∧ w.grownBy wr (some bm)) (fun _ wr => wr.rangeLeft bm w.heap.size)
  case atStart => exact ⟨_, cnt0, by rw [cur_start]; exact hr0, hg0.but _⟩
  case round =>
    clear hr0 hg0 hs0
    obtain ⟨left, cnt, hrg, hgw⟩ := hrel
    have hmeas0 := Lib.hid hrg.left_eq
    go_wp2_with (at_next; refine wpList_next _ rfl _ rfl 3 .i64 law3 Try.underlying3 bm w.heap.size 7 _ _ _ rfl hrg ?_ ?_)
    · intro hl0
      have hl : left = fun _ => false := funext hl0
      subst hl
      have HF := Lib.hid hrg.owns
      have HG := Lib.hid hgw
      clear hrg hgw hl0
      go_wp2
      go_end0
      exact ⟨rfl, HF.out, HG.out⟩
    · intro x y w1 cnt1 hwx hlx hfx hr1 hlt1 hg1 hs1 hen
      have hg2 := hgw.andThen hg1 (by intro j e; cases e; exact .inl (Nat.le_refl _))
      have hc := HD.out w1 x y hg2
      have hkey := keyOf_int_mk Try.underlying3 hwx
      have hlt2 := hr1.lt
      have hlt3 := hr1.owns.lt
      have HG2 := Lib.hid hg2
      have HR1 := Lib.hid hr1
      clear hg1 hs1 hfx hrg hgw hlx hg2 hr1
      cases hd : del x <;> rw [hd] at hc
      · have HC := Lib.hid hc
        have HDX := Lib.hid hd
        clear hc hd
        go_wp2_with (go_at_call 65; refine HC.out.mono ?_; rintro e w2 ⟨rfl, hb2⟩)
        have hr2 := HR1.out.kept (nob_iff.1 hb2) (by simp) (by simp)
        go_roundw
        case rel => exact ⟨_, cnt1, by rw [← cur_stays del f left x HDX.out]; exact hr2, HG2.out.andThen (nob_iff.1 hb2) (by intro j e; cases e)⟩
        case measure => rw [hr2.left_eq, hmeas0.out]; exact hlt1
      · have HC := Lib.hid hc
        have HDX := Lib.hid hd
        clear hc hd
        go_wp2_with (first
          | (go_at_call 65; refine HC.out.mono ?_; rintro e w2 ⟨rfl, hb2⟩; have hr2 := HR1.out.kept (nob_iff.1 hb2) (by simp) (by simp))
          | (at_delete; refine wpList_strike _ rfl _ _ 75 3 rfl 92 law3 Try.underlying75 bm w.heap.size 7 _ _ _ rfl hr2 _ _ rfl hkey ?_; intro w3 cnt3 hrg3 hle hg3 _; go_frame))
        have HG3 := HG2.out.andThen (nob_iff.1 hb2) (by intro j e; cases e)
        rw [strike_twice] at hrg3
        go_roundw
        case rel => exact ⟨_, cnt3, by rw [← cur_struck del f left x HDX.out]; exact hrg3, HG3.andThen hg3 (by intro j e; cases e; exact .inr rfl)⟩
        case measure => rw [hrg3.left_eq, hmeas0.out]; omega
end Go.Proofs.Ytibdjmmhdggpfaa

/-
  Contracts of a table's Set, and of New.
-/
namespace Go.Proofs.Ytibdjmmhdggpfaa
set_option linter.unusedVariables false
set_option linter.unusedSimpArgs false
open Go.RowKit Go.Maps Go.Proofs.YtibdjmmhdggpfaaW.PrintWords Go.Proofs.YtibdjmmhdggpfaaW.PrintMore Go.Proofs.Ytibdjmmhdggpfaa.PPollPlays Go.Proofs.Ytibdjmmhdggpfaa.pure Go.Proofs.Ytibdjmmhdggpfaa.fmap

/-- A slice of numbers lies in no block of a table's. -/
theorem IntC.own_ne {w : World} {A : Option Addr} {l : List Int} (h : IntC w A l) (h0 : l ≠ []) {B b bm : Nat} {bl : Int → Nat} {t : Tb} (ht : TAt w B b bm bl t) : ∀ ad, A = some ad → ¬ owns bm bl t ad.block := by
  rintro ad rfl ho
  rcases ho with e | ⟨j, hj, e⟩
  · exact h.map_ne h0 ht.map ad rfl (by rw [e])
  · obtain ⟨x, hx⟩ := Option.isSome_iff_exists.1 hj
    obtain ⟨ad', e2, hc⟩ := (IntC_iff.1 h).2 (List.length_pos_iff.2 h0)
    cases e2
    have h1 := hc 0 (List.length_pos_iff.2 h0)
    have hb := ht.line j x hx
    rw [e] at hb
    unfold World.cell? at h1
    have hbk : (ad.add 0).block = ad.block := by unfold Addr.add; split <;> rfl
    rw [hbk, hb] at h1
    generalize hq : (ad.add 0).off = q at h1
    match q with
    | 0 => cases hs : (ad.add 0).spot <;> simp [hs] at h1
    | 1 => cases hs : (ad.add 0).spot <;> simp [hs] at h1
    | 2 => cases hs : (ad.add 0).spot <;> simp [hs] at h1
    | 3 => cases hs : (ad.add 0).spot <;> simp [hs] at h1
    | q + 4 => cases hs : (ad.add 0).spot <;> simp [hs] at h1
theorem IntC.step {w w' : World} {A : Option Addr} {l : List Int} (h : IntC w A l) {B b bm : Nat} {bl bl' : Int → Nat} {t t' : Tb} (ht : TAt w B b bm bl t) (hs : Step bm bl t bl' t' w w') : IntC w' A l := by
  by_cases h0 : l = []
  · subst h0
    exact IntC.nil
  · rw [IntC_iff] at h ⊢
    refine ⟨h.1, fun hp => ?_⟩
    obtain ⟨ad, e, hc⟩ := h.2 hp
    refine ⟨ad, e, fun j hj => ?_⟩
    have hbk : (ad.add j).block = ad.block := by unfold Addr.add; split <;> rfl
    have h1 := hc j hj
    have hlt := World.block_lt_of_cell? _ _ h1
    rw [← h1]
    exact World.cell?_of_block (hs.keep _ hlt (by rw [hbk]; exact (IntC_iff.2 h).own_ne h0 ht ad e))

theorem closure_ok (w : World) (g : Nat) (A : Option Addr) (c : Nat) (l : List Int) (h : IntC w A l) (hc : l.length ≤ c) (hl : l.length ≤ 100) (hg : w.cell? ⟨g, 0, none⟩ = some (.slice A l.length c)) (x : Int) (v : Value) :
    Calls Try.prog 65 (#[.int .i64 x, v] ++ #[.pointer (some ⟨g, 0, none⟩)]) w fun e w' => e = .returned (.bool (!decide (x ∈ l))) ∧ Below w.heap.size w w' := by
  have HM := Lib.hid (mhas w A c l h hc hl x)
  clear h
  go_enter Try.func65, Try.ntmps65
  go_wp2_with (go_at_call 46; refine HM.out.mono ?_; rintro e w1 ⟨rfl, hb⟩)
  go_ret
  exact ⟨rfl, hb⟩

/-- Those lines whose node stands in a list. -/
def pick (t : Tb) (l : List Int) : Tb := fun j => if j ∈ l then t j else none
theorem cur_pick (bl : Int → Nat) (t : Tb) (l : List Int) : cur (fun x => !decide (x ∈ l)) (tabf bl t) (fun _ => false) = tabf bl (pick t l) := by
  funext z
  by_cases hz : ∃ x, z = .int .i64 x
  · obtain ⟨x, rfl⟩ := hz
    by_cases e : x ∈ l <;> simp [cur, tabf, pick, e]
  · have h1 : ∀ t, tabf bl t z = none := fun t => by
      unfold tabf
      split
      · exact absurd ⟨_, rfl⟩ hz
      · rfl
    rw [h1]
    unfold cur
    split
    · exact absurd ⟨_, rfl⟩ hz
    · exact h1 _
/-- A new line. -/
abbrev nl (last : Int) : Ln := ⟨0, last + 1, 0, false⟩
theorem nl_ok {last : Int} (h0 : 0 ≤ last) (h1 : last ≤ IX) : (nl last).Ok := ⟨Int.le_refl _, by show (0 : Int) ≤ IX; unfold IX; omega, by show 0 < last + 1; omega, by show last + 1 ≤ IX + 1; omega, Int.le_refl _, by unfold UU; simp⟩
/-- k nodes of a list have been looked at. -/
def addk (t : Tb) (l : List Int) (last : Int) (k : Nat) : Tb := fun j => if j ∈ l then (if (t j).isSome then t j else if j ∈ l.take k ∧ 0 ≤ j ∧ j ≤ 6 then some (nl last) else none) else none
/-- What Set leaves. -/
def news (t : Tb) (l : List Int) (last : Int) : Tb := fun j => if j ∈ l ∧ 0 ≤ j ∧ j ≤ 6 then some ((t j).getD (nl last)) else none
theorem addk_zero (t : Tb) (l : List Int) (last : Int) : addk t l last 0 = pick t l := by
  funext j
  unfold addk pick
  by_cases e : j ∈ l
  · simp only [e, if_true, List.take_zero, List.not_mem_nil, false_and, if_false]
    cases h : t j <;> simp
  · simp [e]
theorem addk_all {t : Tb} (ht : TOk t) (l : List Int) (last : Int) {k : Nat} (hk : l.length ≤ k) : addk t l last k = news t l last := by
  funext j
  unfold addk news
  rw [List.take_of_length_le hk]
  by_cases e : j ∈ l
  · cases h : t j with
    | none =>
      simp only [e, if_true, Option.isSome_none, Bool.false_eq_true, if_false, true_and, Option.getD_none]
    | some x =>
      have := ht.key j x h
      simp [e, this]
  · simp [e]
theorem mem_take_succ {l : List Int} {k : Nat} (hk : k < l.length) (x : Int) : x ∈ l.take (k + 1) ↔ x ∈ l.take k ∨ x = l[k] := by
  rw [List.take_succ_eq_append_getElem hk]
  simp only [List.mem_append, List.mem_singleton]
theorem addk_stay {t : Tb} (l : List Int) (last : Int) {k : Nat} (hk : k < l.length) (h : (addk t l last k l[k]).isSome = true ∨ ¬ (0 ≤ l[k] ∧ l[k] ≤ 6)) : addk t l last (k + 1) = addk t l last k := by
  funext j
  unfold addk at h ⊢
  simp only [mem_take_succ hk]
  by_cases hj : j = l[k]
  · subst hj
    have e : l[k] ∈ l := List.getElem_mem hk
    rw [if_pos e] at h ⊢
    rw [if_pos e]
    by_cases hs : (t l[k]).isSome = true
    · rw [if_pos hs, if_pos hs]
    · rw [if_neg hs] at h ⊢
      rw [if_neg hs]
      rcases h with h | h
      · by_cases hq : l[k] ∈ List.take k l ∧ 0 ≤ l[k] ∧ l[k] ≤ 6
        · rw [if_pos hq, if_pos ⟨.inr rfl, hq.2⟩]
        · rw [if_neg hq] at h
          cases h
      · rw [if_neg (fun hh => h hh.2), if_neg (fun hh => h hh.2)]
  · simp only [hj, or_false]
theorem addk_new {t : Tb} (l : List Int) (last : Int) {k : Nat} (hk : k < l.length) (h : addk t l last k l[k] = none) (h0 : 0 ≤ l[k] ∧ l[k] ≤ 6) : addk t l last (k + 1) = tput (addk t l last k) l[k] (nl last) := by
  funext j
  by_cases hj : j = l[k]
  · subst hj
    rw [tput_same]
    unfold addk at h ⊢
    have e : l[k] ∈ l := List.getElem_mem hk
    rw [if_pos e] at h ⊢
    by_cases hs : (t l[k]).isSome = true
    · rw [if_pos hs] at h
      rw [h] at hs
      cases hs
    · rw [if_neg hs, if_pos ⟨(mem_take_succ hk _).2 (.inr rfl), h0⟩]
  · rw [tput_other _ _ hj]
    unfold addk
    simp only [mem_take_succ hk, hj, or_false]
theorem addk_ok {t : Tb} (ht : TOk t) (l : List Int) {last : Int} (h0 : 0 ≤ last) (h1 : last ≤ IX) (k : Nat) : TOk (addk t l last k) where
  key := fun j x hx => by
    unfold addk at hx
    split at hx
    · split at hx
      · exact ht.key j x hx
      · split at hx
        · next h => exact h.2
        · cases hx
    · cases hx
  ok := fun j x hx => by
    unfold addk at hx
    split at hx
    · split at hx
      · exact ht.ok j x hx
      · split at hx
        · cases hx
          exact nl_ok h0 h1
        · cases hx
    · cases hx

/-- Fewer lines. -/
theorem TAt.picked {w w' : World} {B b bm : Nat} {bl : Int → Nat} {t : Tb} (h : TAt w B b bm bl t) (l : List Int) (hm : FM w' Try.prog 3 bm 7 (tabf bl (pick t l))) (hg : w.grownBy w' (some bm)) :
    TAt w' B b bm bl (pick t l) ∧ Step bm bl t bl (pick t l) w w' := by
  have sub : ∀ j x, pick t l j = some x → t j = some x := fun j x hx => by
    unfold pick at hx
    split at hx
    · exact hx
    · cases hx
  have subs : ∀ j, (pick t l j).isSome = true → (t j).isSome = true := fun j hj => by
    obtain ⟨x, hx⟩ := Option.isSome_iff_exists.1 hj
    rw [sub j x hx]
    rfl
  have own : ∀ j, owns bm bl (pick t l) j → owns bm bl t j := fun j hj => hj.imp id (fun ⟨i, hi, e⟩ => ⟨i, subs i hi, e⟩)
  refine ⟨⟨blk_grown h.blk hg (by intro e; exact h.b_free (.inl (Option.some.inj e))), hm, fun j x hx => blk_grown (h.line j x (sub j x hx)) hg (by intro e; exact h.line_ne (sub j x hx) (Option.some.inj e)), fun i j hi hj e => h.inj i j (subs i hi) (subs j hj) e,
    ⟨fun j x hx => h.ok.key j x (sub j x hx), fun j x hx => h.ok.ok j x (sub j x hx)⟩, h.lo, fun j hj => h.los j (own j hj)⟩, ⟨hg.os, hg.tape, hg.output, hg.size, fun i hi hn => hg.block i hi (by intro e; exact hn (.inl (Option.some.inj e))), fun j hj => .inl (own j hj)⟩⟩
/-- One line more. -/
theorem TAt.add {w w' : World} {B b bm : Nat} {bl : Int → Nat} {t : Tb} (h : TAt w B b bm bl t) {k : Int} {x : Ln} (hk : t k = none) (h6 : 0 ≤ k ∧ k ≤ 6) (hx : x.Ok)
    (hm : FM w' Try.prog 3 bm 8 (fput (tabf bl t) (.int .i64 k) (some (.pointer (some ⟨w.heap.size, 0, none⟩))))) (hg : (w.alloc (.cells (lc x) 66)).grownBy w' (some bm)) :
    TAt w' B b bm (fun j => if j = k then w.heap.size else bl j) (tput t k x) ∧ Step bm bl t (fun j => if j = k then w.heap.size else bl j) (tput t k x) w w' := by
  have ht := h.ok.put h6 hx
  have ha := h.below (alloc_below w (.cells (lc x) 66))
  have hlt := h.map.lt
  rw [tabf_put bl t k x] at hm
  have kt : ∀ j, (tput t k x j).isSome = true → 0 ≤ j ∧ j ≤ 6 := fun j hj => by obtain ⟨y, hy⟩ := Option.isSome_iff_exists.1 hj; exact ht.key j y hy
  have own : ∀ i, owns bm (fun j => if j = k then w.heap.size else bl j) (tput t k x) i → owns bm bl t i ∨ w.heap.size ≤ i := by
    rintro i (e | ⟨j, hj, e⟩)
    · exact .inl (.inl e)
    · by_cases hjk : j = k
      · subst hjk
        simp at e
        exact .inr (by omega)
      · rw [tput_other t x hjk] at hj
        simp only [hjk, if_false] at e
        exact .inl (.inr ⟨j, hj, e⟩)
  refine ⟨⟨?_, tight kt hm, ?_, ?_, ht, h.lo, ?_⟩, ⟨hg.os, hg.tape, hg.output, ?_, ?_, own⟩⟩
  · exact blk_grown ha.blk hg (by intro e; exact h.b_free (.inl (Option.some.inj e)))
  · intro j y hj
    by_cases e : j = k
    · subst e
      rw [tput_same] at hj
      cases hj
      simp only [if_true]
      exact blk_grown (heap_alloc_new w (.cells (lc x) 66)) hg (by intro e; cases e; omega)
    · rw [tput_other t x e] at hj
      simp only [e, if_false]
      exact blk_grown (ha.line j y hj) hg (by intro e'; exact h.line_ne hj (Option.some.inj e'))
  · intro i j hi hj he
    have lt : ∀ j, j ≠ k → (tput t k x j).isSome = true → bl j < w.heap.size := fun j hjk hj => by
      rw [tput_other t x hjk] at hj
      exact h.own_lt (.inr ⟨j, hj, rfl⟩)
    by_cases ei : i = k <;> by_cases ej : j = k
    · rw [ei, ej]
    · have := lt j ej hj
      simp [ei, ej] at he
      omega
    · have := lt i ei hi
      simp [ei, ej] at he
      omega
    · simp only [ei, ej, if_false] at he
      rw [tput_other t x ei] at hi
      rw [tput_other t x ej] at hj
      exact h.inj i j hi hj he
  · intro i hi
    rcases own i hi with ho | ho
    · exact h.los i ho
    · have := h.lo
      have := blk_lt h.blk
      omega
  · have := hg.size
    simp at this
    omega
  · intro i hi hn
    rw [hg.block i (by simp; omega) (by intro e; exact hn (.inl (Option.some.inj e)))]
    exact Below.heap_alloc w _ i hi
end Go.Proofs.Ytibdjmmhdggpfaa
