/-
  The document's Live.
-/
import Derived.Test.YtibdjmmhdggpfaaGRef4
import Derived.Test.YtibdjmmhdggpfaaGLive
namespace Go.Proofs.Ytibdjmmhdggpfaa
set_option linter.unusedVariables false
set_option linter.unusedSimpArgs false
open Go.Proofs.YtibdjmmhdggpfaaW.PrintLast Go.RowKit Go.Maps Go.Proofs.YtibdjmmhdggpfaaW.PrintWords Go.Proofs.YtibdjmmhdggpfaaW.PrintMore Go.Proofs.Ytibdjmmhdggpfaa.PPollPlays Go.Proofs.Ytibdjmmhdggpfaa.pure Go.Proofs.Ytibdjmmhdggpfaa.fmap

theorem rreached (w : World) (A : Option Addr) (c : Nat) (l : List Int) (h : IntC w A l) (hc : l.length ≤ c) (hl : l.length ≤ 100) (A' : Option Addr) (c' : Nat) (s : List Int) (h' : IntC w A' s) (hc' : s.length ≤ c') (hs : s.length ≤ 100) :
    Calls Try.prog 48 #[.slice A l.length c, .slice A' s.length c'] w fun e w' => e = .returned (.bool (snd l && decide (2 * (cnt l s : Int) > (l.length : Int)))) ∧ ∃ m, w' = w.drewN m :=
  (curfewref29_Reached.calls (l.length + s.length + 16) A c l A' c' s _ w h hc h' hc' (reached_eq l s (by omega) (by omega) _ (by omega))).mono fun e w' he => ⟨he.1, let ⟨m, hm⟩ := he.2; ⟨m, hm⟩⟩
/-- Those that are alive. -/
def alives (t : Tb) (self : Int) : List Int := rowp (alive t self)
theorem live_eq (t : Tb) (l : List Int) (self : Int) : (snd l && decide (2 * (cnt l (alives t self) : Int) > (l.length : Int))) = live t l self := by
  unfold live
  cases hs : snd l with
  | false => rfl
  | true =>
    simp only [Bool.true_and]
    have e : cnt l (alives t self) = (l.filter (alive t self)).length := by
      unfold cnt alives
      congr 1
      refine List.filter_congr fun x hx => ?_
      have := ((snd_iff l).1 hs).2.2 x hx
      rw [Bool.eq_iff_iff]
      simp [mem_rowp, this]
    rw [e, quo_pos hs]
    rw [Bool.eq_iff_iff]
    simp
    omega
/-- Those below k are calm. -/
def halfk (t : Tb) (k : Int) : Tb := fun j => if j < k then (t j).map (fun x => { x with a := false }) else t j
theorem halfk_zero {t : Tb} (h : ∀ k, (t k).isSome = true → 0 ≤ k ∧ k ≤ 6) : halfk t 0 = t := by
  funext j
  unfold halfk
  by_cases e : j < 0
  · rw [if_pos e]
    cases ht : t j with
    | none => rfl
    | some x =>
      have := h j (by rw [ht]; rfl)
      omega
  · rw [if_neg e]
theorem halfk_all {t : Tb} (h : ∀ k, (t k).isSome = true → 0 ≤ k ∧ k ≤ 6) : halfk t 7 = calm t := by
  funext j
  unfold halfk calm
  by_cases e : j < 7
  · rw [if_pos e]
  · rw [if_neg e]
    cases ht : t j with
    | none => rfl
    | some x =>
      have := h j (by rw [ht]; rfl)
      omega
theorem halfk_at (t : Tb) (k : Int) : halfk t k k = t k := by unfold halfk; rw [if_neg (by omega)]
theorem halfk_none (t : Tb) (k : Int) (h : t k = none) : halfk t (k + 1) = halfk t k := by
  funext j
  unfold halfk
  by_cases e : j = k
  · subst e
    rw [if_pos (by omega), if_neg (by omega), h]
    rfl
  · by_cases e2 : j < k
    · rw [if_pos e2, if_pos (by omega)]
    · rw [if_neg e2, if_neg (by omega)]
theorem halfk_some (t : Tb) (k : Int) (x : Ln) (h : t k = some x) : halfk t (k + 1) = tput (halfk t k) k { x with a := false } := by
  funext j
  unfold halfk tput
  by_cases e : j = k
  · subst e
    rw [if_pos (by omega), if_pos rfl, h]
    rfl
  · rw [if_neg e]
    show _ = if j < k then (t j).map (fun x => ({ x with a := false } : Ln)) else t j
    by_cases e2 : j < k
    · rw [if_pos e2, if_pos (by omega)]
    · rw [if_neg e2, if_neg (by omega)]

/-- At the head of a round of the document's Live. -/
structure RLive (w : World) (t : Tb) (sf : Int) (k : Nat) (cs : Array Value) (v : Value) (s : List Int) (wr : World) : Prop where
  a : wr.heap[w.heap.size]? = some (.cells cs 60 (0, 0))
  b : wr.heap[w.heap.size + 1]? = some (.cells Z60 60 (0, 0))
  rt : RT cs (halfk t k)
  own : wr.ownsRow (w.heap.size + 2) 3 1 v s.length (s.map (Value.int .i64))
  eq : s = (nodes.take k).filter (alive t sf)
  bel : Below w.heap.size w wr
theorem nodes_get {k : Nat} (hk : k < 7) : nodes[k]'(by unfold nodes; exact hk) = (k : Int) := by
  match k, hk with
  | 0, _ => rfl
  | 1, _ => rfl
  | 2, _ => rfl
  | 3, _ => rfl
  | 4, _ => rfl
  | 5, _ => rfl
  | 6, _ => rfl
theorem nodes_take {k : Nat} (hk : k < 7) : nodes.take (k + 1) = nodes.take k ++ [(k : Int)] := by
  rw [List.take_succ_eq_append_getElem (show k < nodes.length by unfold nodes; exact hk), nodes_get hk]
theorem RLive.len {w : World} {t : Tb} {self : Int} {k : Nat} {cs : Array Value} {v : Value} {s : List Int} {wr : World} (h : RLive w t self k cs v s wr) : s.length ≤ 7 := by
  rw [h.eq]
  exact Nat.le_trans (List.length_filter_le _ _) (Nat.le_trans (List.length_take_le' _ _) (by unfold nodes; simp))
/-- The line's flag is cleared. -/
theorem RLive.clear {w : World} {t : Tb} {self : Int} {k : Nat} {cs : Array Value} {v : Value} {s : List Int} {wr : World} (h : RLive w t self k cs v s wr) (hk : k < 7) : RT (cs.setIfInBounds (7 + k * 4 + 3) (.bool false)) (halfk t ((k + 1 : Nat) : Int)) := by
  have hs : 7 + k * 4 + 3 < cs.size := by have := h.rt.size; omega
  have e1 : ((k + 1 : Nat) : Int) = (k : Int) + 1 := by omega
  rw [e1]
  cases ht : t k with
  | none =>
    have hz : lnz (halfk t k) k = z0 := by unfold lnz; rw [halfk_at, ht]; rfl
    have hc := h.rt.a k hk
    rw [hz] at hc
    rw [set_same hc, halfk_none t k ht]
    exact h.rt
  | some x =>
    have hx : halfk t k k = some x := by rw [halfk_at, ht]
    rw [set_a (h.rt.line hk hx) hs, halfk_some t k x ht]
    exact h.rt.put hk (by rw [hx]; rfl) _
theorem RLive.next_in {w : World} {t : Tb} {self : Int} {k : Nat} {cs : Array Value} {v v' : Value} {s : List Int} {wr w2 : World} {o : Obj} (h : RLive w t self k cs v s wr) (hk : k < 7) (ha : alive t self k = true)
    (hown : w2.ownsRow (w.heap.size + 2) 3 1 v' (s.length + 1) (s.map (Value.int .i64) ++ [.int .i64 k])) (hg : (wr.alloc o).grownBy w2 v.ownBlock) :
    RLive w t self (k + 1) (cs.setIfInBounds (7 + k * 4 + 3) (.bool false)) v' (s ++ [(k : Int)]) (w2.setRow w.heap.size (cs.setIfInBounds (7 + k * 4 + 3) (.bool false))) ∧ w2.heap[w.heap.size]? = some (.cells cs 60 (0, 0)) := by
  have ne : ∀ g, g < w.heap.size + 2 → some g ≠ v.ownBlock := fun g hg e => by have := (h.own.lt g e.symm).1; omega
  have a2 := blk_grown (blk_alloc h.a o) hg (ne _ (by omega))
  have b2 := blk_grown (blk_alloc h.b o) hg (ne _ (by omega))
  have bl := (h.bel.alloc h.bel.size o).grown hg (Nat.le_trans h.bel.size (by simp)) (fun k e => by have := (h.own.lt k e).1; omega)
  refine ⟨⟨setRow_heap _ _ _ _ _ _ a2, (setRow_other _ _ _ _ (by omega)).trans b2, h.clear hk, ?_, ?_, setRow_below bl (Nat.le_refl _)⟩, a2⟩
  · have : (w2.setRow w.heap.size (cs.setIfInBounds (7 + k * 4 + 3) (.bool false))).ownsRow (w.heap.size + 2) 3 1 v' (s.length + 1) (s.map (Value.int .i64) ++ [.int .i64 k]) :=
      hown.kept (row := some w.heap.size) ⟨rfl, rfl, rfl, by simp, fun k hk hne => setRow_other _ _ _ _ (by intro e; exact hne (by rw [e]))⟩ (.inr (fun e => by have := (hown.lt _ e).1; omega))
    simpa using this
  · rw [nodes_take hk, List.filter_append, ← h.eq]
    simp [ha]
theorem RLive.next_out {w : World} {t : Tb} {self : Int} {k : Nat} {cs : Array Value} {v : Value} {s : List Int} {wr : World} (h : RLive w t self k cs v s wr) (hk : k < 7) (ha : alive t self k = false) :
    RLive w t self (k + 1) (cs.setIfInBounds (7 + k * 4 + 3) (.bool false)) v s (wr.setRow w.heap.size (cs.setIfInBounds (7 + k * 4 + 3) (.bool false))) := by
  refine ⟨setRow_heap _ _ _ _ _ _ h.a, (setRow_other _ _ _ _ (by omega)).trans h.b, h.clear hk, ?_, ?_, setRow_below h.bel (Nat.le_refl _)⟩
  · exact h.own.kept (row := some w.heap.size) ⟨rfl, rfl, rfl, by simp, fun k hk hne => setRow_other _ _ _ _ (by intro e; exact hne (by rw [e]))⟩ (.inr (fun e => by have := (h.own.lt _ e).1; omega))
  · rw [nodes_take hk, List.filter_append, ← h.eq]
    simp [ha]

/-- The table's row. -/
structure RowA (g : Nat) (cs : Array Value) (W : World) : Prop where
  a : W.heap[g]? = some (.cells cs 60 (0, 0))
theorem RowA.exec {g : Nat} {cs : Array Value} {W : World} (h : RowA g cs W) (hi : (Try.prog.info? 60).map (·.size) = some cs.size) {o : Oper} {ev : Operand → Value} {x : Operand} (ho : o.op = .load 60 x) (hx : ev x = .pointer (some ⟨g, 0, none⟩)) : (execOp ev o).run Try.prog W = .ok (.value (.agg cs)) W := by
  unfold execOp
  simp only [ho, hx, Instr.loadAt, Instr.sureAddr, Sem.run_bind, Sem.run_pure, Result.andThen_ok, run_loadVar_row W g 60 60 cs (0, 0) _ h.a Try.underlying60 rfl hi]
set_option maxRecDepth 100000 in
set_option maxHeartbeats 2000000 in
theorem rlive_ok (w : World) (cs : Array Value) (t : Tb) (h : RT cs t) (A : Option Addr) (c : Nat) (l : List Int) (hC : IntC w A l) (hc : l.length ≤ c) (hl : l.length ≤ 100) (self : Int) :
    Calls Try.prog 52 #[.agg cs, .slice A l.length c, .int .i64 self] w (TabBool w (calm t) (live t l self)) := by
  obtain ⟨i0, hin, hz0, hz1, hz2⟩ := info_parts infoI
  have hz := zero60
  have HR := Lib.hid h
  have HT := Lib.hid (two_blocks w cs)
  have HC := Lib.hid hC
  clear h hC
  go_enter Try.func52, Try.ntmps52
  go_upto_region 1 with (fail)
  generalize (w.alloc (.cells cs 60)).alloc (.cells Z60 60) = W at HT ⊢
  have R0 : RLive w t self 0 cs (.slice none 0 0) [] W := ⟨HT.out.1, HT.out.2.1, by rw [show ((0 : Nat) : Int) = 0 from rfl, halfk_zero HR.out.key]; exact HR.out, World.ownsRow_nil _ _ _ _, rfl, HT.out.2.2⟩
  go_wp2
  go_loopw [8, 9] (fun v i wr => ∃ (k : Nat) (cs' : Array Value) (s : List Int), i = .int .i64 k ∧ k ≤ 7 ∧ RLive w t self k cs' v s wr) (fun _ i _ => 7 - (intOf i).toNat)
  case atStart => exact ⟨0, cs, [], rfl, by omega, R0⟩
  case round =>
    clear R0
    obtain ⟨k, cs', s, rfl, hk, R⟩ := hrel
    have HRR := Lib.hid R
    have hsl := R.len
    by_cases hlt : k < 7
    · have hlt' : (k : Int) < 7 := by omega
      have hh := (blk_cell R.a k).trans (R.rt.has k hlt)
      have ha := (blk_cell R.a _).trans (R.rt.a k hlt)
      have hza : lnz (halfk t k) k = lnz t k := by unfold lnz; rw [halfk_at]
      rw [halfk_at] at hh
      rw [hza] at ha
      clear R hza
      by_cases hself : (k : Int) = self
      · have HAL := Lib.hid (show alive t self k = true by unfold alive; simp [hself])
        have hb : ((k : Int) == self) = true := by simpa using hself
        clear hself
        go_wp2_with (first
          | (at_builtin; refine wpList_append_own _ rfl _ _ 22 rfl (w.heap.size + 2) 3 i0 (.int .i64 0) 1 8 Try.underlying22 hin hz0 hz1 hz2 rfl (by decide) _ _ _ rfl (HRR.out.own.alloc _) ⟨wr.heap.size, 0, none⟩ 1 1 [.int .i64 k] rfl rfl (cell_one_new _ _ _) (ints_oneCell .i64 [(k : Int)]) (by unfold maxLen; omega) (by omega) (by have := blk_lt HRR.out.b; simp; omega) ?_; intro v' w2 hown' hgrow _; have HNX := Lib.hid (HRR.out.next_in hlt HAL.out hown' hgrow); clear hown' hgrow)
          | ((with_reducible refine rows.wpList_store_cell rfl 4 _ _ rfl w.heap.size (7 + k * 4 + 3) (.bool false) ?_ ?_ rfl rfl 60 cs' HNX.out.2 ?_ ?_ ?_); rfl; rfl; kernel_rfl; (have := HRR.out.rt.size; omega)))
        go_roundw
        case rel => exact ⟨k + 1, _, _, by go_num, hlt, HNX.out.1⟩
        case measure => simp [intOf]; omega
      · have hb : ((k : Int) == self) = false := by simpa using hself
        have HNE := Lib.hid hself
        clear hself
        rcases hx : t k with _ | x
        · have HAL := Lib.hid (show alive t self k = false by unfold alive lnz; rw [hx]; simp [HNE.out])
          rw [hx] at hh
          simp only [Option.isSome_none] at hh
          clear hx ha
          have HNX := Lib.hid (HRR.out.next_out hlt HAL.out)
          go_wp2_with (((with_reducible refine rows.wpList_store_cell rfl 4 _ _ rfl w.heap.size (7 + k * 4 + 3) (.bool false) ?_ ?_ rfl rfl 60 cs' HRR.out.a ?_ ?_ ?_); rfl; rfl; kernel_rfl; (have := HRR.out.rt.size; omega)))
          go_roundw
          case rel => exact ⟨k + 1, _, _, by go_num, hlt, HNX.out⟩
          case measure => simp [intOf]; omega
        · have hxa : (lnz t k).a = x.a := by simp [lnz, hx]
          rw [hx] at hh
          rw [hxa] at ha
          simp only [Option.isSome_some] at hh
          cases hxb : x.a with
          | true =>
            have HAL := Lib.hid (show alive t self k = true by unfold alive; rw [hxa, hxb]; simp)
            rw [hxb] at ha
            clear hx hxa hxb
            go_wp2_with (first
              | (at_builtin; refine wpList_append_own _ rfl _ _ 22 rfl (w.heap.size + 2) 3 i0 (.int .i64 0) 1 8 Try.underlying22 hin hz0 hz1 hz2 rfl (by decide) _ _ _ rfl (HRR.out.own.alloc _) ⟨wr.heap.size, 0, none⟩ 1 1 [.int .i64 k] rfl rfl (cell_one_new _ _ _) (ints_oneCell .i64 [(k : Int)]) (by unfold maxLen; omega) (by omega) (by have := blk_lt HRR.out.b; simp; omega) ?_; intro v' w2 hown' hgrow _; have HNX := Lib.hid (HRR.out.next_in hlt HAL.out hown' hgrow); clear hown' hgrow)
              | ((with_reducible refine rows.wpList_store_cell rfl 4 _ _ rfl w.heap.size (7 + k * 4 + 3) (.bool false) ?_ ?_ rfl rfl 60 cs' HNX.out.2 ?_ ?_ ?_); rfl; rfl; kernel_rfl; (have := HRR.out.rt.size; omega)))
            go_roundw
            case rel => exact ⟨k + 1, _, _, by go_num, hlt, HNX.out.1⟩
            case measure => simp [intOf]; omega
          | false =>
            have HAL := Lib.hid (show alive t self k = false by unfold alive; rw [hxa, hxb]; simp [HNE.out])
            rw [hxb] at ha
            clear hx hxa hxb
            have HNX := Lib.hid (HRR.out.next_out hlt HAL.out)
            go_wp2_with (((with_reducible refine rows.wpList_store_cell rfl 4 _ _ rfl w.heap.size (7 + k * 4 + 3) (.bool false) ?_ ?_ rfl rfl 60 cs' HRR.out.a ?_ ?_ ?_); rfl; rfl; kernel_rfl; (have := HRR.out.rt.size; omega)))
            go_roundw
            case rel => exact ⟨k + 1, _, _, by go_num, hlt, HNX.out⟩
            case measure => simp [intOf]; omega
    · obtain rfl : k = 7 := by omega
      have hi := info60 R.rt.size
      obtain ⟨A2, c2, rfl, hc2, hC2⟩ := (intR_of_owns R.own).reads
      have hrt : RT cs' (calm t) := by rw [← halfk_all HR.out.key]; exact R.rt
      have hs : s = alives t self := by rw [R.eq]; rfl
      have HRT := Lib.hid hrt
      have HS := Lib.hid hs
      have HC2 := Lib.hid hC2
      have hi2 := info60 hrt.size
      have HRC : Hid (∀ w1, Below w.heap.size w w1 → IntC w1 A2 s → Calls Try.prog 48 #[.slice A l.length c, .slice A2 s.length c2] w1 fun e w' => e = .returned (.bool (live t l self)) ∧ ∃ m, w' = w1.drewN m) := Lib.hid (fun w1 hb h1 => by
        have := rreached w1 A c l (HC.out.below hb) hc hl A2 c2 s h1 hc2 (by omega)
        have e : cnt l s = cnt l (alives t self) := by rw [hs]
        rw [e, live_eq] at this
        exact this)
      clear R hrt hs hC2
      go_upto_region 8 with (fail)
      refine start_ (n := 6) (S := RowA w.heap.size cs') (ds := []) #[false, false, false, false, false, false] (by kernel_rfl) rfl rfl ⟨HRR.out.a⟩ (fun hHeld => ?_)
      have HB1 := Lib.hid (show wr.drew.heap[w.heap.size + 1]? = some (.cells Z60 60 (0, 0)) from HRR.out.b)
      have HBL := Lib.hid (HRR.out.bel.drew)
      have HC3 := Lib.hid (show IntC wr.drew A2 s from HC2.out)
      generalize wr.drew = W4 at hHeld HB1 HBL HC3 ⊢
      refine pure_ (i := 1) (N := some 39) (v := .slice A l.length c) (a' := ?_) #[false, true, false, false, false, false] rfl rfl (by kernel_rfl) (fun _ _ _ h => h) (Or.inl ⟨rfl, fun w' => by kernel_rfl⟩) ?_ ?_
      rotate_left
      · simp only [Act.put, List.setIfInBounds_toArray, List.set_cons_zero, List.set_cons_succ]
        rfl
      refine pure_ (i := 2) (N := some 40) (v := .slice A2 s.length c2) (a' := ?_) #[false, true, true, false, false, false] rfl rfl (by kernel_rfl) (fun _ _ _ h => h) (Or.inl ⟨rfl, fun w' => by kernel_rfl⟩) ?_ ?_
      rotate_left
      · simp only [Act.put, List.setIfInBounds_toArray, List.set_cons_zero, List.set_cons_succ]
        rfl
      refine take_ (i := 0) (N := some 38) (v := .agg cs') (a' := ?_) #[true, true, true, false, false, false] rfl rfl (by kernel_rfl) (fun _ _ _ h => h) (Or.inl ⟨rfl, fun w' h => h.exec hi rfl rfl⟩) hHeld ?_ ?_
      rotate_left
      · simp only [Act.put, List.setIfInBounds_toArray, List.set_cons_zero, List.set_cons_succ]
        rfl
      refine one_ (i := 3) (N := some 41) #[true, true, true, true, false, false] rfl rfl (by kernel_rfl) (by simp) (fun K hK => ?_)
      refine goes_ Try.func48 (by kernel_rfl) rfl #[.slice A l.length c, .slice A2 s.length c2] (by rfl) rfl rfl (by (try simp only [List.map_toArray, List.map_cons, List.map_nil]); first | done | rfl) ?_
      refine (HRC.out W4 HBL.out HC3.out).mono ?_
      rintro e w' ⟨rfl, m, rfl⟩
      refine ⟨_, rfl, hK.out _ _ ⟨hHeld.a⟩ (fun hH2 => ?_)⟩
      clear hK K
      refine norm_ (a' := ?_) ?_ ?_
      rotate_left
      · simp only [Act.put, List.setIfInBounds_toArray, List.set_cons_zero, List.set_cons_succ]
        rfl
      refine one_ (i := 4) (N := none) #[true, true, true, true, true, false] rfl rfl (by kernel_rfl) (by simp) (fun K hK => ?_)
      refine if_wanted rfl (wp_store_row 60 _ _ rfl (w.heap.size + 1) cs' rfl rfl 60 Z60 HB1.out hi (by rw [Z60_size, HRT.out.size]) HRT.out.one (hK.out _ _ ⟨(setRow_other _ _ _ _ (by omega)).trans hHeld.a⟩ (fun _ => ?_)))
      clear hK K
      refine norm_ (a' := ?_) ?_ ?_
      rotate_left
      · simp only [Act.put, List.setIfInBounds_toArray, List.set_cons_zero, List.set_cons_succ]
        rfl
      refine pure_ (i := 5) (N := some 7) (v := .bool (live t l self)) (a' := ?_) #[true, true, true, true, true, true] rfl rfl (by kernel_rfl) (fun _ _ _ h => h) (Or.inl ⟨rfl, fun w' => by kernel_rfl⟩) ?_ ?_
      rotate_left
      · simp only [Act.put, List.setIfInBounds_toArray, List.set_cons_zero, List.set_cons_succ]
        rfl
      refine done_ (by kernel_rfl) ?_
      go_wp2
      exact ret_row Try.results52 rfl rfl (setRow_heap _ _ _ _ _ _ HB1.out) HRT.out.size rfl ⟨cs', rfl, HRT.out, setRow_below (HBL.out.trans (drawn_below _ _ |>.mono HBL.out.size)) (by omega)⟩

end Go.Proofs.Ytibdjmmhdggpfaa
