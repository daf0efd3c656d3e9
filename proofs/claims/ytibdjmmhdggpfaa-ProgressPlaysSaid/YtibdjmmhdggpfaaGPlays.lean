/-
  The document's greatest: what a quorum has.
-/
import Derived.Test.YtibdjmmhdggpfaaGLives
import Derived.Test.YtibdjmmhdggpfaaGRise
import Derived.Test.YtibdjmmhdggpfaaGNodes
namespace Go.Proofs.Ytibdjmmhdggpfaa
set_option linter.unusedVariables false
set_option linter.unusedSimpArgs false
open Go.RowKit Go.Maps Go.Proofs.YtibdjmmhdggpfaaW.PrintWords Go.Proofs.YtibdjmmhdggpfaaW.PrintMore Go.Proofs.Ytibdjmmhdggpfaa.PPollPlays Go.Proofs.Ytibdjmmhdggpfaa.pure Go.Proofs.Ytibdjmmhdggpfaa.fmap

/-- How many have x, or more. -/
def atl (l : List Int) (x : Int) : Nat := l.countP (fun y => decide (x ≤ y))
/-- The greatest that q have. -/
structure Great (l : List Int) (q : Int) (n : Nat) (r : Int) : Prop where
  one : r = 0 ∨ (r ∈ l ∧ q ≤ (atl l r : Int))
  all : ∀ j, ∀ h : j < l.length, j < n → q ≤ (atl l l[j] : Int) → l[j] ≤ r
theorem Great.start (l : List Int) (q : Int) : Great l q 0 0 := ⟨.inl rfl, fun j _ h => absurd h (Nat.not_lt_zero _)⟩
theorem Great.stay {l : List Int} {q : Int} {n : Nat} {r : Int} (H : Great l q n r) (hn : n < l.length) (h : q ≤ (atl l l[n] : Int) → l[n] ≤ r) : Great l q (n + 1) r :=
  ⟨H.one, fun j hj hjn hq => by
    by_cases e : j = n
    · subst e; exact h hq
    · exact H.all j hj (by omega) hq⟩
theorem Great.take {l : List Int} {q : Int} {n : Nat} {r : Int} (H : Great l q n r) (hn : n < l.length) (h1 : q ≤ (atl l l[n] : Int)) (h2 : r < l[n]) : Great l q (n + 1) l[n] :=
  ⟨.inr ⟨List.getElem_mem hn, h1⟩, fun j hj hjn hq => by
    by_cases e : j = n
    · subst e; exact Int.le_refl _
    · have := H.all j hj (by omega) hq
      omega⟩
/-- It is what a quorum has. -/
theorem Great.quo {l : List Int} {v r : Int} (hv : Quo l v) (h0 : ∀ x ∈ l, 0 ≤ x) (H : Great l ((l.length : Int) / 2 + 1) l.length r) : r = v := by
  obtain ⟨hm, h1, h2⟩ := hv.counts
  have ha : (l.length : Int) / 2 + 1 ≤ (atl l v : Int) := by unfold atl; omega
  obtain ⟨j, hj, rfl⟩ := List.getElem_of_mem hm
  have hle := H.all j hj hj ha
  have hv0 := h0 _ (List.getElem_mem hj)
  rcases H.one with rfl | ⟨hr, hq⟩
  · omega
  · by_cases e : r ≤ l[j]
    · omega
    · have : atl l r ≤ l.countP (fun x => decide (l[j] < x)) := List.countP_mono_left (fun x _ hx => by simp at hx ⊢; omega)
      omega

set_option maxRecDepth 100000 in
set_option maxHeartbeats 1000000 in
theorem greatest_ok (w : World) (A : Option Addr) (c : Nat) (l : List Int) (hC : UC w A l) (hc : l.length ≤ c) (hl : l.length ≤ 7) (q : Int) :
    Calls Try.prog 59 #[.slice A l.length c, .int .i64 q] w fun e w' => ∃ r, e = .returned (.int .u64 r) ∧ Great l q l.length r ∧ Below w.heap.size w w' := by
  have HC := fun w' (hb : Below w.heap.size w w') => Lib.hid ((UC_iff.1 hC).2)
  have HCC := Lib.hid hC
  have hcell : ∀ (w' : World), Below w.heap.size w w' → ∀ j, ∀ h : j < l.length, ∃ ad, A = some ad ∧ w'.cell? (ad.add j) = some (.int .u64 l[j]) := by
    intro w' hb j hj
    obtain ⟨ad, e, hcc⟩ := (UC_iff.1 hC).2 (by omega)
    refine ⟨ad, e, ?_⟩
    have hx := hcc j hj
    exact (hb.cell (World.block_lt_of_cell? _ _ hx)).trans hx
  have HCE := Lib.hid hcell
  clear hC hcell HC
  go_enter Try.func59, Try.ntmps59
  go_wp2
  go_loopw [5, 6] (fun b i wr => ∃ (n : Nat) (r : Int), i = .int .i64 n ∧ n ≤ l.length ∧ b = .int .u64 r ∧ Great l q n r ∧ Below w.heap.size w wr) (fun _ i _ => l.length - (intOf i).toNat)
  case atStart => exact ⟨0, 0, rfl, Nat.zero_le _, rfl, Great.start _ _, Below.refl _ _⟩
  case round =>
    obtain ⟨n, r, rfl, hn, rfl, hG, hB⟩ := hrel
    by_cases hlt : n < l.length
    · have HG := Lib.hid hG
      have HB := Lib.hid hB
      clear hG hB
      go_wp2
      go_loopw [7, 8] (fun m j wq => ∃ (k : Nat), j = .int .i64 k ∧ k ≤ l.length ∧ m = .int .i64 ((l.take k).countP (fun y => decide (l[n] ≤ y)) : Nat) ∧ Below w.heap.size w wq) (fun _ j _ => l.length - (intOf j).toNat)
      case atStart => exact ⟨0, rfl, Nat.zero_le _, rfl, HB.out⟩
      case round =>
        obtain ⟨k, rfl, hk, rfl, hBq⟩ := hrel
        by_cases hlt2 : k < l.length
        · obtain ⟨ad, e1, hck⟩ := HCE.out wr hBq k hlt2
          obtain ⟨ad', e2, hcn⟩ := HCE.out wr hBq n hlt
          rw [e1] at e2
          cases e2
          subst e1
          have hE := Lib.hid (show (l.take (k + 1)).countP (fun y => decide (l[n] ≤ y)) = (l.take k).countP (fun y => decide (l[n] ≤ y)) + (if l[n] ≤ l[k] then 1 else 0) by
            rw [List.take_succ_eq_append_getElem hlt2, List.countP_append]; simp [List.countP_cons])
          have b1 : (l.take k).countP (fun y => decide (l[n] ≤ y)) ≤ 7 := Nat.le_trans List.countP_le_length (by rw [List.length_take]; omega)
          generalize (l.take k).countP (fun y => decide (l[n] ≤ y)) = p1 at hE b1 ⊢
          have HBQ := Lib.hid hBq
          have hki : (k : Int) < (l.length : Int) := by omega
          have hni : (n : Int) < (l.length : Int) := by omega
          generalize hxn : l[n] = xn at hcn hE
          generalize hxk : l[k] = xk at hck hE
          have HXN := Lib.hid hxn
          clear hBq hxn hxk
          by_cases hle : xn ≤ xk
          · go_wp2
            go_quiet (fail)
            go_wp2
            go_roundw
            case rel => exact ⟨k + 1, by go_num, hlt2, by rw [hE.out, if_pos hle]; go_num, HBQ.out.trans ((drawn_below _ _).mono HBQ.out.size)⟩
            case measure => simp [intOf]; omega
          · have hle2 : decide (xn ≤ xk) = false := decide_eq_false hle
            go_wp2
            go_quiet (fail)
            go_wp2
            go_roundw
            case rel => exact ⟨k + 1, by go_num, hlt2, by rw [hE.out, if_neg (by omega)]; go_num, HBQ.out.trans ((drawn_below _ _).mono HBQ.out.size)⟩
            case measure => simp [intOf]; omega
        · obtain rfl : k = l.length := by omega
          obtain ⟨ad, e1, hcn⟩ := HCE.out wr hBq n hlt
          subst e1
          rw [List.take_length]
          have hA := Lib.hid (show l.countP (fun y => decide (l[n] ≤ y)) = atl l l[n] from rfl)
          rw [hA.out]
          have HT := fun h1 h2 => Lib.hid (HG.out.take hlt h1 h2)
          have HS := fun h => Lib.hid (HG.out.stay hlt h)
          have b1 : atl l l[n] ≤ 7 := Nat.le_trans List.countP_le_length hl
          clear hA
          generalize l[n] = xn at hcn HT HS b1 ⊢
          generalize atl l xn = p1 at HT HS b1 ⊢
          have HBQ := Lib.hid hBq
          clear hBq
          by_cases c1 : q ≤ (p1 : Int)
          · by_cases c2 : r < xn
            · have H2 := HT c1 c2
              clear HT HS
              go_wp2
              go_roundw
              case rel => exact ⟨n + 1, _, by go_num, hlt, rfl, H2.out, HBQ.out⟩
              case measure => simp [intOf]; omega
            · have H2 := HS (fun _ => by omega)
              clear HT HS
              go_wp2
              go_roundw
              case rel => exact ⟨n + 1, _, by go_num, hlt, rfl, H2.out, HBQ.out⟩
              case measure => simp [intOf]; omega
          · have H2 := HS (fun h => absurd h c1)
            clear HT HS
            go_wp2
            go_roundw
            case rel => exact ⟨n + 1, _, by go_num, hlt, rfl, H2.out, HBQ.out⟩
            case measure => simp [intOf]; omega
    · obtain rfl : n = l.length := by omega
      go_wp2
      go_ret
      exact ⟨_, rfl, hG, hB⟩
end Go.Proofs.Ytibdjmmhdggpfaa

/-
  The document's Agreed, Answered.
-/
namespace Go.Proofs.Ytibdjmmhdggpfaa
set_option linter.unusedVariables false
set_option linter.unusedSimpArgs false
open Go.Proofs.YtibdjmmhdggpfaaW.PrintLast Go.RowKit Go.Maps Go.Proofs.YtibdjmmhdggpfaaW.PrintWords Go.Proofs.YtibdjmmhdggpfaaW.PrintMore Go.Proofs.Ytibdjmmhdggpfaa.PPollPlays Go.Proofs.Ytibdjmmhdggpfaa.pure Go.Proofs.Ytibdjmmhdggpfaa.fmap

theorem rget_ok (w : World) (cs : Array Value) (t : Tb) (h : RT cs t) (n : Int) : Calls Try.prog 58 #[.agg cs, .int .i64 n] w fun e w' => e = .returned (.tuple #[.agg (lc (lnz t n)), .bool (t n).isSome]) ∧ Below w.heap.size w w' := by
  rcases hn : t n with _ | x
  · have : lnz t n = z0 := by unfold lnz; rw [hn]; rfl
    rw [this]
    exact get_none w cs t h n hn
  · have : lnz t n = x := by unfold lnz; rw [hn]; rfl
    rw [this]
    exact get_some w cs t h n x hn
/-- The table's row, and the number that is asked for. -/
structure RowG (g : Nat) (cs : Array Value) (ad : Addr) (x : Int) (W : World) : Prop where
  a : W.heap[g]? = some (.cells cs 60 (0, 0))
  b : W.cell? ad = some (.int .i64 x)
theorem RowG.below {g : Nat} {cs : Array Value} {ad : Addr} {x : Int} {W W' : World} (h : RowG g cs ad x W) (hb : Below W.heap.size W W') : RowG g cs ad x W' := ⟨blk_below h.a hb, (hb.cell (World.block_lt_of_cell? _ _ h.b)).trans h.b⟩
theorem RowG.exec {g : Nat} {cs : Array Value} {ad : Addr} {y : Int} {W : World} (h : RowG g cs ad y W) (hi : (Try.prog.info? 60).map (·.size) = some cs.size) {o : Oper} {ev : Operand → Value} {x : Operand} (ho : o.op = .load 60 x) (hx : ev x = .pointer (some ⟨g, 0, none⟩)) : (execOp ev o).run Try.prog W = .ok (.value (.agg cs)) W := by
  unfold execOp
  simp only [ho, hx, Instr.loadAt, Instr.sureAddr, Sem.run_bind, Sem.run_pure, Result.andThen_ok, run_loadVar_row W g 60 60 cs (0, 0) _ h.a Try.underlying60 rfl hi]
theorem RowG.exec3 {g : Nat} {cs : Array Value} {ad : Addr} {y : Int} {W : World} (h : RowG g cs ad y W) {o : Oper} {ev : Operand → Value} {x : Operand} (ho : o.op = .load 3 x) (hx : ev x = .pointer (some ad)) : (execOp ev o).run Try.prog W = .ok (.value (.int .i64 y)) W := by
  have hu := Try.underlying3
  have hb := h.b
  unfold execOp
  simp only [ho, hx]
  simp [Instr.loadAt, Instr.sureAddr, go_sem, hb, hu]
theorem zero57 (w : World) : (zeroValue 57).run Try.prog w = .ok (.agg (lc z0)) w := by kernel_rfl
theorem info57 (y : Ln) : (Try.prog.info? 57).map (·.size) = some (lc y).size := by
  have : (Try.prog.info? 57).map (·.size) = some 4 := by kernel_rfl
  rw [this]
  rfl
theorem exec_alloc57 {o : Oper} {ev : Operand → Value} (ho : o.op = .alloc 57) (W : World) : (execOp ev o).run Try.prog W = .ok (.value (.pointer (some ⟨W.heap.size, 0, none⟩))) (W.alloc (.cells (lc z0) 57)) := by
  have hz := zero57 W
  unfold execOp
  simp only [ho]
  simp [go_sem, Instr.alloc, hz]
theorem exec_index22 {o : Oper} {ev : Operand → Value} {x y : Operand} {ad : Addr} {n c k : Nat} (ho : o.op = .indexAddr 22 x y) (hx : ev x = .slice (some ad) n c) (hy : ev y = .int .i64 k) (hk : k < n) (W : World) : (execOp ev o).run Try.prog W = .ok (.value (.pointer (some (ad.add k)))) W := by
  have hu := Try.underlying22
  unfold execOp
  simp only [ho, hx, hy]
  simp [go_sem, hu, hk]
theorem lc_all (y : Ln) : (lc y).all (·.oneCell') = true := by simp [Value.oneCell']
theorem fin1 {wr W4 w5 : World} (h : Below wr.heap.size wr W4) (hb : Below W4.heap.size W4 w5) (o : Obj) (cs : Array Value) : Below wr.heap.size wr ((w5.alloc o).setRow w5.heap.size cs) := by
  have h5 := h.trans (hb.mono h.size)
  exact below_setRow (h5.trans ((alloc_below _ _).mono h5.size)) h5.size cs
theorem fin2 {wr W4 w5 : World} {o : Obj} (h : Below wr.heap.size wr W4) (hb : Below (W4.alloc o).heap.size (W4.alloc o) w5) (cs : Array Value) : Below wr.heap.size wr (w5.setRow W4.heap.size cs) := by
  have h4 := h.trans ((alloc_below W4 o).mono h.size)
  exact below_setRow (h4.trans (hb.mono h4.size)) h.size cs
theorem rquo (w : World) (A : Option Addr) (c : Nat) (l : List Int) (hC : IntC w A l) (hc : l.length ≤ c) (hs : snd l = true) :
    Calls Try.prog 60 #[.slice A l.length c] w fun e w' => e = .returned (.int .i64 ((l.length : Int) / 2 + 1)) ∧ Below w.heap.size w w' := by
  have hl7 := snd_length hs
  have HS := Lib.hid (rsound w A c l hC hc)
  rw [hs] at HS
  have hd : Int.tdiv (l.length : Int) 2 = (l.length : Int) / 2 := Int.tdiv_eq_ediv_of_nonneg (by omega)
  clear hC hs
  go_enter Try.func60, Try.ntmps60
  go_wp2_with (go_at_call 13; refine HS.out.mono ?_; rintro e w1 ⟨rfl, hb1⟩)
  go_ret
  exact ⟨rfl, hb1⟩
theorem Row.uc {w : World} {g : Nat} {l : List Int} (h : Row w g l) (hl : l.length ≤ 100) : UC w (some ⟨g, 0, none⟩) l := by
  rw [UC_iff]
  refine ⟨by omega, fun _ => ⟨_, rfl, fun j hj => ?_⟩⟩
  rw [Addr.add_lit, Nat.zero_add]
  exact h.cell j hj

set_option maxRecDepth 100000 in
set_option maxHeartbeats 4000000 in
theorem ragreed_ok (w : World) (cs : Array Value) (t : Tb) (hR : RT cs t) (A : Option Addr) (c : Nat) (l : List Int) (hC : IntC w A l) (hc : l.length ≤ c) (hs : snd l = true) (self own : Int) :
    Calls Try.prog 31 #[.agg cs, .slice A l.length c, .int .i64 self, .int .u64 own] w fun e w' => ∃ r, e = .returned (.int .u64 r) ∧ Great (vals t self own (·.m) l) ((l.length : Int) / 2 + 1) l.length r ∧ Below w.heap.size w w' := by
  obtain ⟨i0, hi, hz0, hz1, hz2⟩ := info_parts infoU
  have hl7 := snd_length hs
  have hi60 := info60 hR.size
  have hu57 := Try.underlying57
  have hu60 := Try.underlying60
  have HS := fun w' hb => Lib.hid (rsound w' A c l (hC.below hb) hc)
  rw [hs] at HS
  have HQU := fun w' hb => Lib.hid (rquo w' A c l (hC.below hb) hc hs)
  have HC := Lib.hid hC
  have HT := Lib.hid hs
  have HRT := Lib.hid hR
  generalize hvs : vals t self own (·.m) l = vs
  have HV := Lib.hid hvs
  have hvl : vs.length = l.length := by rw [← hvs]; simp [vals]
  have HVL := Lib.hid hvl
  have A1 := heap_alloc_new w (.cells cs 60)
  have HB1 := alloc_below w (.cells cs 60)
  clear hs hC hvs hvl hR
  go_enter Try.func31, Try.ntmps31
  go_wp2_with (go_at_call 13; refine (HS _ HB1).out.mono ?_; rintro e w2 ⟨rfl, hb2⟩)
  have R0 : Col (w.alloc (.cells cs 60)) vs 0 (.slice none 0 0) w2 := Col.start hb2
  generalize w.alloc (.cells cs 60) = W1 at A1 HB1 R0 hb2
  generalize hga : w.heap.size = ga at A1 ⊢
  rw [hga] at HB1
  have HA1 := Lib.hid A1
  have HB1 := Lib.hid HB1
  have HGA := Lib.hid hga
  clear hb2 HS A1 hga
  go_loopw [9, 10] (fun v i wr => ∃ k : Nat, i = .int .i64 k ∧ k ≤ l.length ∧ Col W1 vs k v wr) (fun _ i _ => l.length - (intOf i).toNat)
  case atStart => exact ⟨0, rfl, Nat.zero_le _, R0⟩
  case round =>
    clear R0
    obtain ⟨k, rfl, hk, R⟩ := hrel
    have hb0 : Below w.heap.size w wr := by
      have h1 := HB1.out
      rw [← HGA.out] at h1
      exact h1.trans (R.bel.mono h1.size)
    by_cases hlt : k < l.length
    · obtain ⟨ad, rfl, hcell⟩ := (IntC_iff.1 (HC.out.below hb0)).2 (by omega)
      have hck := hcell k hlt
      have hkv : k < vs.length := by rw [HVL.out]; exact hlt
      generalize hx : l[k] = x at hck
      have HX := Lib.hid hx
      have HR := Lib.hid R
      have hsz := R.bel.size
      clear hx R hcell hb0
      by_cases hself : x = self
      · have HVK := Lib.hid (show vs[k] = own by have := HV.out; subst this; exact vals_get_self hkv (by rw [HX.out, hself]))
        have hne : (x == self) = true := by simpa using hself
        clear hself
        go_wp2_with (at_builtin; refine wpList_append_own _ rfl _ _ 97 rfl W1.heap.size 50 i0 (.int .u64 0) 1 8 Try.underlying97 hi hz0 hz1 hz2 rfl (by decide) _ _ _ rfl (HR.out.own.alloc _) ⟨wr.heap.size, 0, none⟩ 1 1 [.int .u64 own] rfl rfl (cell_one_new _ _ _) (ints_oneCell .u64 [own]) (by unfold maxLen; omega) (by omega) (by simp; omega) ?_; intro v' w4 hown' hgrow _; have HP := Lib.hid (HR.out.push hkv HVK.out hown' hgrow); clear hown' hgrow)
        go_roundw
        case rel => exact ⟨k + 1, by go_num, hlt, HP.out⟩
        case measure => simp [intOf]; omega
      · have hne : (x == self) = false := by simpa using hself
        have HG := Lib.hid (fun W => rget_ok W cs t HRT.out x)
        have HVK := Lib.hid (show vs[k] = (lnz t x).m by have := HV.out; subst this; rw [vals_get_other hkv (by rw [HX.out]; exact hself), HX.out])
        generalize lnz t x = y at HG HVK
        generalize (t x).isSome = z at HG
        have HA := Lib.hid (show RowG ga cs (ad.add k) x wr from ⟨blk_below HA1.out HR.out.bel, hck⟩)
        clear hself
        go_upto_region 9 with (fail)
        clear hck
        refine start_ (n := 12) (S := RowG ga cs (ad.add k) x) (ds := [10]) #[false, false, false, false, false, false, false, false, false, false, false, false] (by kernel_rfl) rfl rfl ⟨HA.out.a, HA.out.b⟩ (fun hHeld => ?_)
        have HBL := Lib.hid (show Below wr.heap.size wr wr.drew from ⟨rfl, rfl, rfl, Nat.le_refl _, fun _ _ => rfl⟩)
        generalize wr.drew = W4 at hHeld HBL ⊢
        refine pure_ (i := 1) (N := some 34) (v := .slice (some ad) l.length c) (a' := ?_) #[false, true, false, false, false, false, false, false, false, false, false, false] rfl rfl (by kernel_rfl) (fun _ _ _ h => h) (Or.inl ⟨rfl, fun w' => by kernel_rfl⟩) ?_ ?_
        rotate_left
        · simp only [Act.put, List.setIfInBounds_toArray, List.set_cons_zero, List.set_cons_succ]
          rfl
        refine pure_ (i := 2) (N := some 35) (v := .int .i64 k) (a' := ?_) #[false, true, true, false, false, false, false, false, false, false, false, false] rfl rfl (by kernel_rfl) (fun _ _ _ h => h) (Or.inl ⟨rfl, fun w' => by kernel_rfl⟩) ?_ ?_
        rotate_left
        · simp only [Act.put, List.setIfInBounds_toArray, List.set_cons_zero, List.set_cons_succ]
          rfl
        refine pure_ (i := 3) (N := some 36) (v := .pointer (some (ad.add k))) (a' := ?_) #[false, true, true, true, false, false, false, false, false, false, false, false] rfl rfl (by kernel_rfl) (fun _ _ _ h => h) (Or.inl ⟨rfl, fun w' => exec_index22 rfl rfl rfl hlt w'⟩) ?_ ?_
        rotate_left
        · simp only [Act.put, List.setIfInBounds_toArray, List.set_cons_zero, List.set_cons_succ]
          rfl
        refine take_ (i := 0) (N := some 33) (v := .agg cs) (a' := ?_) #[true, true, true, true, false, false, false, false, false, false, false, false] rfl rfl (by kernel_rfl) (fun _ _ _ h => h) (Or.inl ⟨rfl, fun w' h => h.exec hi60 rfl rfl⟩) hHeld ?_ ?_
        rotate_left
        · simp only [Act.put, List.setIfInBounds_toArray, List.set_cons_zero, List.set_cons_succ]
          rfl
        refine take_ (i := 4) (N := some 37) (v := .int .i64 x) (a' := ?_) #[true, true, true, true, true, false, false, false, false, false, false, false] rfl rfl (by kernel_rfl) (fun _ _ _ h => h) (Or.inl ⟨rfl, fun w' h => h.exec3 rfl rfl⟩) hHeld ?_ ?_
        rotate_left
        · simp only [Act.put, List.setIfInBounds_toArray, List.set_cons_zero, List.set_cons_succ]
          rfl
        refine two_ (i := 5) (j := 9) (Ni := some 38) (Nj := some 11) #[true, true, true, true, true, true, false, false, false, false, false, false] #[true, true, true, true, true, false, false, false, false, true, false, false] rfl rfl rfl rfl (by kernel_rfl) (by simp) (by simp) (fun K hK => ?_) (fun K hK => ?_)
        · refine goes_ Try.func58 (by kernel_rfl) rfl #[.agg cs, .int .i64 x] (by rfl) rfl rfl (by (try simp only [List.map_toArray, List.map_cons, List.map_nil]); first | done | rfl) ?_
          refine (HG.out _).mono ?_
          rintro e w5 ⟨rfl, hb5⟩
          refine ⟨_, rfl, hK.out _ _ (hHeld.below hb5) (fun hH2 => ?_)⟩
          clear hK K
          refine norm_ (a' := ?_) ?_ ?_
          rotate_left
          · simp only [Act.put, List.setIfInBounds_toArray, List.set_cons_zero, List.set_cons_succ]
            rfl
          refine pure_ (i := 6) (N := some 32) (v := .tuple #[.agg (lc y), .bool z]) (a' := ?_) #[true, true, true, true, true, true, true, false, false, false, false, false] rfl rfl (by kernel_rfl) (fun _ _ _ h => h) (Or.inl ⟨rfl, fun w' => by kernel_rfl⟩) ?_ ?_
          rotate_left
          · simp only [Act.put, List.setIfInBounds_toArray, List.set_cons_zero, List.set_cons_succ]
            rfl
          refine pure_ (i := 7) (N := some 39) (v := .agg (lc y)) (a' := ?_) #[true, true, true, true, true, true, true, true, false, false, false, false] rfl rfl (by kernel_rfl) (fun _ _ _ h => h) (Or.inl ⟨rfl, fun w' => by kernel_rfl⟩) ?_ ?_
          rotate_left
          · simp only [Act.put, List.setIfInBounds_toArray, List.set_cons_zero, List.set_cons_succ]
            rfl
          refine pure_ (i := 8) (N := some 40) (v := .bool z) (a' := ?_) #[true, true, true, true, true, true, true, true, true, false, false, false] rfl rfl (by kernel_rfl) (fun _ _ _ h => h) (Or.inl ⟨rfl, fun w' => by kernel_rfl⟩) ?_ ?_
          rotate_left
          · simp only [Act.put, List.setIfInBounds_toArray, List.set_cons_zero, List.set_cons_succ]
            rfl
          refine one_ (i := 9) (N := some 11) #[true, true, true, true, true, true, true, true, true, true, false, false] rfl rfl (by kernel_rfl) (by simp) (fun K hK => ?_)
          refine value_ rfl rfl (exec_alloc57 rfl _) (hK.out _ _ (hH2.below (alloc_below _ _)) (fun hH3 => ?_))
          clear hK K
          refine norm_ (a' := ?_) ?_ ?_
          rotate_left
          · simp only [Act.put, List.setIfInBounds_toArray, List.set_cons_zero, List.set_cons_succ]
            rfl
          refine last_ (i := 10) (N := none) #[true, true, true, true, true, true, true, true, true, true, true, false] rfl rfl (by kernel_rfl) (by simp) (fun K hK => ?_)
          refine if_wanted rfl (wp_store_row 57 _ _ rfl w5.heap.size (lc y) rfl rfl 57 (lc z0) (heap_alloc_new w5 (.cells (lc z0) 57)) (info57 y) rfl (lc_all y) (hK.out _ _ ?_))
          clear hK K
          refine norm_ (a' := ?_) ?_ ?_
          rotate_left
          · simp only [Act.put, List.setIfInBounds_toArray, List.set_cons_zero, List.set_cons_succ]
            rfl
          refine pure_ (i := 11) (N := some 12) (v := .bool z) (a' := ?_) #[true, true, true, true, true, true, true, true, true, true, true, true] rfl rfl (by kernel_rfl) (fun _ _ _ h => h) (Or.inl ⟨rfl, fun w' => by kernel_rfl⟩) ?_ ?_
          rotate_left
          · simp only [Act.put, List.setIfInBounds_toArray, List.set_cons_zero, List.set_cons_succ]
            rfl
          refine done_ (by kernel_rfl) ?_
          have hbE := Lib.hid (fin1 HBL.out hb5 (.cells (lc z0) 57) (lc y))
          have bE := setRow_heap _ _ _ (lc y) _ _ (heap_alloc_new w5 (.cells (lc z0) 57))
          have f0 := (blk_cell bE 0).trans rfl
          have hgE := blk_lt bE
          have R3 := Lib.hid (HR.out.below hbE.out)
          have hszE := Nat.le_trans hsz hbE.out.size
          generalize (w5.alloc (.cells (lc z0) 57)).setRow w5.heap.size (lc y) = wE at R3 f0 hgE hbE hszE ⊢
          clear bE
          go_wp2_with (at_builtin; refine wpList_append_own _ rfl _ _ 97 rfl W1.heap.size 50 i0 (.int .u64 0) 1 8 Try.underlying97 hi hz0 hz1 hz2 rfl (by decide) _ _ _ rfl (R3.out.own.alloc _) ⟨wE.heap.size, 0, none⟩ 1 1 [.int .u64 y.m] rfl rfl (cell_one_new _ _ _) (ints_oneCell .u64 [y.m]) (by unfold maxLen; omega) (by omega) (by simp; omega) ?_; intro v' w7 hown' hgrow _; have HP := Lib.hid (R3.out.push hkv HVK.out hown' hgrow); clear hown' hgrow)
          go_roundw
          case rel => exact ⟨k + 1, by go_num, hlt, HP.out⟩
          case measure => simp [intOf]; omega
        · refine value_ rfl rfl (exec_alloc57 rfl _) (hK.out _ _ (hHeld.below (alloc_below _ _)) (fun hH2 => ?_))
          clear hK K
          refine norm_ (a' := ?_) ?_ ?_
          rotate_left
          · simp only [Act.put, List.setIfInBounds_toArray, List.set_cons_zero, List.set_cons_succ]
            rfl
          refine one_ (i := 5) (N := some 38) #[true, true, true, true, true, true, false, false, false, true, false, false] rfl rfl (by kernel_rfl) (by simp) (fun K hK => ?_)
          refine goes_ Try.func58 (by kernel_rfl) rfl #[.agg cs, .int .i64 x] (by rfl) rfl rfl (by (try simp only [List.map_toArray, List.map_cons, List.map_nil]); first | done | rfl) ?_
          refine (HG.out _).mono ?_
          rintro e w5 ⟨rfl, hb5⟩
          refine ⟨_, rfl, hK.out _ _ (hH2.below hb5) (fun hH3 => ?_)⟩
          clear hK K
          refine norm_ (a' := ?_) ?_ ?_
          rotate_left
          · simp only [Act.put, List.setIfInBounds_toArray, List.set_cons_zero, List.set_cons_succ]
            rfl
          refine pure_ (i := 6) (N := some 32) (v := .tuple #[.agg (lc y), .bool z]) (a' := ?_) #[true, true, true, true, true, true, true, false, false, true, false, false] rfl rfl (by kernel_rfl) (fun _ _ _ h => h) (Or.inl ⟨rfl, fun w' => by kernel_rfl⟩) ?_ ?_
          rotate_left
          · simp only [Act.put, List.setIfInBounds_toArray, List.set_cons_zero, List.set_cons_succ]
            rfl
          refine pure_ (i := 7) (N := some 39) (v := .agg (lc y)) (a' := ?_) #[true, true, true, true, true, true, true, true, false, true, false, false] rfl rfl (by kernel_rfl) (fun _ _ _ h => h) (Or.inl ⟨rfl, fun w' => by kernel_rfl⟩) ?_ ?_
          rotate_left
          · simp only [Act.put, List.setIfInBounds_toArray, List.set_cons_zero, List.set_cons_succ]
            rfl
          refine pure_ (i := 8) (N := some 40) (v := .bool z) (a' := ?_) #[true, true, true, true, true, true, true, true, true, true, false, false] rfl rfl (by kernel_rfl) (fun _ _ _ h => h) (Or.inl ⟨rfl, fun w' => by kernel_rfl⟩) ?_ ?_
          rotate_left
          · simp only [Act.put, List.setIfInBounds_toArray, List.set_cons_zero, List.set_cons_succ]
            rfl
          refine last_ (i := 10) (N := none) #[true, true, true, true, true, true, true, true, true, true, true, false] rfl rfl (by kernel_rfl) (by simp) (fun K hK => ?_)
          refine if_wanted rfl (wp_store_row 57 _ _ rfl W4.heap.size (lc y) rfl rfl 57 (lc z0) (blk_below (heap_alloc_new W4 (.cells (lc z0) 57)) hb5) (info57 y) rfl (lc_all y) (hK.out _ _ ?_))
          clear hK K
          refine norm_ (a' := ?_) ?_ ?_
          rotate_left
          · simp only [Act.put, List.setIfInBounds_toArray, List.set_cons_zero, List.set_cons_succ]
            rfl
          refine pure_ (i := 11) (N := some 12) (v := .bool z) (a' := ?_) #[true, true, true, true, true, true, true, true, true, true, true, true] rfl rfl (by kernel_rfl) (fun _ _ _ h => h) (Or.inl ⟨rfl, fun w' => by kernel_rfl⟩) ?_ ?_
          rotate_left
          · simp only [Act.put, List.setIfInBounds_toArray, List.set_cons_zero, List.set_cons_succ]
            rfl
          refine done_ (by kernel_rfl) ?_
          have hbE := Lib.hid (fin2 HBL.out hb5 (lc y))
          have bE := setRow_heap _ _ _ (lc y) _ _ (blk_below (heap_alloc_new W4 (.cells (lc z0) 57)) hb5)
          have f0 := (blk_cell bE 0).trans rfl
          have hgE := blk_lt bE
          have R3 := Lib.hid (HR.out.below hbE.out)
          have hszE := Nat.le_trans hsz hbE.out.size
          generalize w5.setRow W4.heap.size (lc y) = wE at R3 f0 hgE hbE hszE ⊢
          clear bE
          go_wp2_with (at_builtin; refine wpList_append_own _ rfl _ _ 97 rfl W1.heap.size 50 i0 (.int .u64 0) 1 8 Try.underlying97 hi hz0 hz1 hz2 rfl (by decide) _ _ _ rfl (R3.out.own.alloc _) ⟨wE.heap.size, 0, none⟩ 1 1 [.int .u64 y.m] rfl rfl (cell_one_new _ _ _) (ints_oneCell .u64 [y.m]) (by unfold maxLen; omega) (by omega) (by simp; omega) ?_; intro v' w7 hown' hgrow _; have HP := Lib.hid (R3.out.push hkv HVK.out hown' hgrow); clear hown' hgrow)
          go_roundw
          case rel => exact ⟨k + 1, by go_num, hlt, HP.out⟩
          case measure => simp [intOf]; omega
    · obtain rfl : k = l.length := by omega
      have hown := R.own
      rw [List.take_of_length_le (by rw [HVL.out]; exact Nat.le_refl _)] at hown
      obtain ⟨g, cap, cur, hv, hge, hgb, hcap, hcm, hcs, hrow⟩ := UR.row (l := vs) (uR_of_owns (by rw [HVL.out]; exact hown)) (by intro e; have := HVL.out; rw [e] at this; simp at this; omega)
      rw [HVL.out] at hv
      subst hv
      have HROW := Lib.hid (hrow.uc (by rw [HVL.out]; omega))
      have HQ := Lib.hid (HQU wr hb0)
      have HGR := fun w' (hb : Below wr.heap.size wr w') => Lib.hid (greatest_ok w' _ cap vs ((UC_iff.2 ((UC_iff.1 HROW.out).imp_right (fun h h0 => by
        obtain ⟨ad, e, hcc⟩ := h h0
        exact ⟨ad, e, fun j hj => (hb.cell (World.block_lt_of_cell? _ _ (hcc j hj))).trans (hcc j hj)⟩)) : UC w' _ vs)) (by omega) (by rw [HVL.out]; omega) ((l.length : Int) / 2 + 1))
      rw [HVL.out] at HGR
      have HB0 := Lib.hid hb0
      clear hown R hrow hgb hcs hcm hge hb0
      generalize hqn : (l.length : Int) / 2 + 1 = qn at HQ HGR
      have HQN := Lib.hid hqn
      clear hqn
      go_wp2_with (first
        | (go_at_call 60; refine HQ.out.out.mono ?_; rintro e w5 ⟨rfl, hb5⟩)
        | (go_at_call 59; refine (HGR w5 hb5).out.mono ?_; rintro e w6 ⟨r, rfl, hr, hb6⟩))
      go_ret
      have b5 := HB0.out.trans (hb5.mono HB0.out.size)
      have b6 := b5.trans (hb6.mono b5.size)

      exact ⟨r, rfl, by rw [HQN.out]; exact hr, b6⟩

set_option maxRecDepth 100000 in
set_option maxHeartbeats 4000000 in
theorem ranswered_ok (w : World) (cs : Array Value) (t : Tb) (hR : RT cs t) (A : Option Addr) (c : Nat) (l : List Int) (hC : IntC w A l) (hc : l.length ≤ c) (hs : snd l = true) (self own : Int) :
    Calls Try.prog 33 #[.agg cs, .slice A l.length c, .int .i64 self, .int .u64 own] w fun e w' => ∃ r, e = .returned (.int .u64 r) ∧ Great (vals t self own (·.r) l) ((l.length : Int) / 2 + 1) l.length r ∧ Below w.heap.size w w' := by
  obtain ⟨i0, hi, hz0, hz1, hz2⟩ := info_parts infoU
  have hl7 := snd_length hs
  have hi60 := info60 hR.size
  have hu57 := Try.underlying57
  have hu60 := Try.underlying60
  have HS := fun w' hb => Lib.hid (rsound w' A c l (hC.below hb) hc)
  rw [hs] at HS
  have HQU := fun w' hb => Lib.hid (rquo w' A c l (hC.below hb) hc hs)
  have HC := Lib.hid hC
  have HT := Lib.hid hs
  have HRT := Lib.hid hR
  generalize hvs : vals t self own (·.r) l = vs
  have HV := Lib.hid hvs
  have hvl : vs.length = l.length := by rw [← hvs]; simp [vals]
  have HVL := Lib.hid hvl
  have A1 := heap_alloc_new w (.cells cs 60)
  have HB1 := alloc_below w (.cells cs 60)
  clear hs hC hvs hvl hR
  go_enter Try.func33, Try.ntmps33
  go_wp2_with (go_at_call 13; refine (HS _ HB1).out.mono ?_; rintro e w2 ⟨rfl, hb2⟩)
  have R0 : Col (w.alloc (.cells cs 60)) vs 0 (.slice none 0 0) w2 := Col.start hb2
  generalize w.alloc (.cells cs 60) = W1 at A1 HB1 R0 hb2
  generalize hga : w.heap.size = ga at A1 ⊢
  rw [hga] at HB1
  have HA1 := Lib.hid A1
  have HB1 := Lib.hid HB1
  have HGA := Lib.hid hga
  clear hb2 HS A1 hga
  go_loopw [9, 10] (fun v i wr => ∃ k : Nat, i = .int .i64 k ∧ k ≤ l.length ∧ Col W1 vs k v wr) (fun _ i _ => l.length - (intOf i).toNat)
  case atStart => exact ⟨0, rfl, Nat.zero_le _, R0⟩
  case round =>
    clear R0
    obtain ⟨k, rfl, hk, R⟩ := hrel
    have hb0 : Below w.heap.size w wr := by
      have h1 := HB1.out
      rw [← HGA.out] at h1
      exact h1.trans (R.bel.mono h1.size)
    by_cases hlt : k < l.length
    · obtain ⟨ad, rfl, hcell⟩ := (IntC_iff.1 (HC.out.below hb0)).2 (by omega)
      have hck := hcell k hlt
      have hkv : k < vs.length := by rw [HVL.out]; exact hlt
      generalize hx : l[k] = x at hck
      have HX := Lib.hid hx
      have HR := Lib.hid R
      have hsz := R.bel.size
      clear hx R hcell hb0
      by_cases hself : x = self
      · have HVK := Lib.hid (show vs[k] = own by have := HV.out; subst this; exact vals_get_self hkv (by rw [HX.out, hself]))
        have hne : (x == self) = true := by simpa using hself
        clear hself
        go_wp2_with (at_builtin; refine wpList_append_own _ rfl _ _ 97 rfl W1.heap.size 50 i0 (.int .u64 0) 1 8 Try.underlying97 hi hz0 hz1 hz2 rfl (by decide) _ _ _ rfl (HR.out.own.alloc _) ⟨wr.heap.size, 0, none⟩ 1 1 [.int .u64 own] rfl rfl (cell_one_new _ _ _) (ints_oneCell .u64 [own]) (by unfold maxLen; omega) (by omega) (by simp; omega) ?_; intro v' w4 hown' hgrow _; have HP := Lib.hid (HR.out.push hkv HVK.out hown' hgrow); clear hown' hgrow)
        go_roundw
        case rel => exact ⟨k + 1, by go_num, hlt, HP.out⟩
        case measure => simp [intOf]; omega
      · have hne : (x == self) = false := by simpa using hself
        have HG := Lib.hid (fun W => rget_ok W cs t HRT.out x)
        have HVK := Lib.hid (show vs[k] = (lnz t x).r by have := HV.out; subst this; rw [vals_get_other hkv (by rw [HX.out]; exact hself), HX.out])
        generalize lnz t x = y at HG HVK
        generalize (t x).isSome = z at HG
        have HA := Lib.hid (show RowG ga cs (ad.add k) x wr from ⟨blk_below HA1.out HR.out.bel, hck⟩)
        clear hself
        go_upto_region 9 with (fail)
        clear hck
        refine start_ (n := 12) (S := RowG ga cs (ad.add k) x) (ds := [10]) #[false, false, false, false, false, false, false, false, false, false, false, false] (by kernel_rfl) rfl rfl ⟨HA.out.a, HA.out.b⟩ (fun hHeld => ?_)
        have HBL := Lib.hid (show Below wr.heap.size wr wr.drew from ⟨rfl, rfl, rfl, Nat.le_refl _, fun _ _ => rfl⟩)
        generalize wr.drew = W4 at hHeld HBL ⊢
        refine pure_ (i := 1) (N := some 34) (v := .slice (some ad) l.length c) (a' := ?_) #[false, true, false, false, false, false, false, false, false, false, false, false] rfl rfl (by kernel_rfl) (fun _ _ _ h => h) (Or.inl ⟨rfl, fun w' => by kernel_rfl⟩) ?_ ?_
        rotate_left
        · simp only [Act.put, List.setIfInBounds_toArray, List.set_cons_zero, List.set_cons_succ]
          rfl
        refine pure_ (i := 2) (N := some 35) (v := .int .i64 k) (a' := ?_) #[false, true, true, false, false, false, false, false, false, false, false, false] rfl rfl (by kernel_rfl) (fun _ _ _ h => h) (Or.inl ⟨rfl, fun w' => by kernel_rfl⟩) ?_ ?_
        rotate_left
        · simp only [Act.put, List.setIfInBounds_toArray, List.set_cons_zero, List.set_cons_succ]
          rfl
        refine pure_ (i := 3) (N := some 36) (v := .pointer (some (ad.add k))) (a' := ?_) #[false, true, true, true, false, false, false, false, false, false, false, false] rfl rfl (by kernel_rfl) (fun _ _ _ h => h) (Or.inl ⟨rfl, fun w' => exec_index22 rfl rfl rfl hlt w'⟩) ?_ ?_
        rotate_left
        · simp only [Act.put, List.setIfInBounds_toArray, List.set_cons_zero, List.set_cons_succ]
          rfl
        refine take_ (i := 0) (N := some 33) (v := .agg cs) (a' := ?_) #[true, true, true, true, false, false, false, false, false, false, false, false] rfl rfl (by kernel_rfl) (fun _ _ _ h => h) (Or.inl ⟨rfl, fun w' h => h.exec hi60 rfl rfl⟩) hHeld ?_ ?_
        rotate_left
        · simp only [Act.put, List.setIfInBounds_toArray, List.set_cons_zero, List.set_cons_succ]
          rfl
        refine take_ (i := 4) (N := some 37) (v := .int .i64 x) (a' := ?_) #[true, true, true, true, true, false, false, false, false, false, false, false] rfl rfl (by kernel_rfl) (fun _ _ _ h => h) (Or.inl ⟨rfl, fun w' h => h.exec3 rfl rfl⟩) hHeld ?_ ?_
        rotate_left
        · simp only [Act.put, List.setIfInBounds_toArray, List.set_cons_zero, List.set_cons_succ]
          rfl
        refine two_ (i := 5) (j := 9) (Ni := some 38) (Nj := some 11) #[true, true, true, true, true, true, false, false, false, false, false, false] #[true, true, true, true, true, false, false, false, false, true, false, false] rfl rfl rfl rfl (by kernel_rfl) (by simp) (by simp) (fun K hK => ?_) (fun K hK => ?_)
        · refine goes_ Try.func58 (by kernel_rfl) rfl #[.agg cs, .int .i64 x] (by rfl) rfl rfl (by (try simp only [List.map_toArray, List.map_cons, List.map_nil]); first | done | rfl) ?_
          refine (HG.out _).mono ?_
          rintro e w5 ⟨rfl, hb5⟩
          refine ⟨_, rfl, hK.out _ _ (hHeld.below hb5) (fun hH2 => ?_)⟩
          clear hK K
          refine norm_ (a' := ?_) ?_ ?_
          rotate_left
          · simp only [Act.put, List.setIfInBounds_toArray, List.set_cons_zero, List.set_cons_succ]
            rfl
          refine pure_ (i := 6) (N := some 32) (v := .tuple #[.agg (lc y), .bool z]) (a' := ?_) #[true, true, true, true, true, true, true, false, false, false, false, false] rfl rfl (by kernel_rfl) (fun _ _ _ h => h) (Or.inl ⟨rfl, fun w' => by kernel_rfl⟩) ?_ ?_
          rotate_left
          · simp only [Act.put, List.setIfInBounds_toArray, List.set_cons_zero, List.set_cons_succ]
            rfl
          refine pure_ (i := 7) (N := some 39) (v := .agg (lc y)) (a' := ?_) #[true, true, true, true, true, true, true, true, false, false, false, false] rfl rfl (by kernel_rfl) (fun _ _ _ h => h) (Or.inl ⟨rfl, fun w' => by kernel_rfl⟩) ?_ ?_
          rotate_left
          · simp only [Act.put, List.setIfInBounds_toArray, List.set_cons_zero, List.set_cons_succ]
            rfl
          refine pure_ (i := 8) (N := some 40) (v := .bool z) (a' := ?_) #[true, true, true, true, true, true, true, true, true, false, false, false] rfl rfl (by kernel_rfl) (fun _ _ _ h => h) (Or.inl ⟨rfl, fun w' => by kernel_rfl⟩) ?_ ?_
          rotate_left
          · simp only [Act.put, List.setIfInBounds_toArray, List.set_cons_zero, List.set_cons_succ]
            rfl
          refine one_ (i := 9) (N := some 11) #[true, true, true, true, true, true, true, true, true, true, false, false] rfl rfl (by kernel_rfl) (by simp) (fun K hK => ?_)
          refine value_ rfl rfl (exec_alloc57 rfl _) (hK.out _ _ (hH2.below (alloc_below _ _)) (fun hH3 => ?_))
          clear hK K
          refine norm_ (a' := ?_) ?_ ?_
          rotate_left
          · simp only [Act.put, List.setIfInBounds_toArray, List.set_cons_zero, List.set_cons_succ]
            rfl
          refine last_ (i := 10) (N := none) #[true, true, true, true, true, true, true, true, true, true, true, false] rfl rfl (by kernel_rfl) (by simp) (fun K hK => ?_)
          refine if_wanted rfl (wp_store_row 57 _ _ rfl w5.heap.size (lc y) rfl rfl 57 (lc z0) (heap_alloc_new w5 (.cells (lc z0) 57)) (info57 y) rfl (lc_all y) (hK.out _ _ ?_))
          clear hK K
          refine norm_ (a' := ?_) ?_ ?_
          rotate_left
          · simp only [Act.put, List.setIfInBounds_toArray, List.set_cons_zero, List.set_cons_succ]
            rfl
          refine pure_ (i := 11) (N := some 12) (v := .bool z) (a' := ?_) #[true, true, true, true, true, true, true, true, true, true, true, true] rfl rfl (by kernel_rfl) (fun _ _ _ h => h) (Or.inl ⟨rfl, fun w' => by kernel_rfl⟩) ?_ ?_
          rotate_left
          · simp only [Act.put, List.setIfInBounds_toArray, List.set_cons_zero, List.set_cons_succ]
            rfl
          refine done_ (by kernel_rfl) ?_
          have hbE := Lib.hid (fin1 HBL.out hb5 (.cells (lc z0) 57) (lc y))
          have bE := setRow_heap _ _ _ (lc y) _ _ (heap_alloc_new w5 (.cells (lc z0) 57))
          have f0 := (blk_cell bE 2).trans rfl
          have hgE := blk_lt bE
          have R3 := Lib.hid (HR.out.below hbE.out)
          have hszE := Nat.le_trans hsz hbE.out.size
          generalize (w5.alloc (.cells (lc z0) 57)).setRow w5.heap.size (lc y) = wE at R3 f0 hgE hbE hszE ⊢
          clear bE
          go_wp2_with (at_builtin; refine wpList_append_own _ rfl _ _ 97 rfl W1.heap.size 50 i0 (.int .u64 0) 1 8 Try.underlying97 hi hz0 hz1 hz2 rfl (by decide) _ _ _ rfl (R3.out.own.alloc _) ⟨wE.heap.size, 0, none⟩ 1 1 [.int .u64 y.r] rfl rfl (cell_one_new _ _ _) (ints_oneCell .u64 [y.r]) (by unfold maxLen; omega) (by omega) (by simp; omega) ?_; intro v' w7 hown' hgrow _; have HP := Lib.hid (R3.out.push hkv HVK.out hown' hgrow); clear hown' hgrow)
          go_roundw
          case rel => exact ⟨k + 1, by go_num, hlt, HP.out⟩
          case measure => simp [intOf]; omega
        · refine value_ rfl rfl (exec_alloc57 rfl _) (hK.out _ _ (hHeld.below (alloc_below _ _)) (fun hH2 => ?_))
          clear hK K
          refine norm_ (a' := ?_) ?_ ?_
          rotate_left
          · simp only [Act.put, List.setIfInBounds_toArray, List.set_cons_zero, List.set_cons_succ]
            rfl
          refine one_ (i := 5) (N := some 38) #[true, true, true, true, true, true, false, false, false, true, false, false] rfl rfl (by kernel_rfl) (by simp) (fun K hK => ?_)
          refine goes_ Try.func58 (by kernel_rfl) rfl #[.agg cs, .int .i64 x] (by rfl) rfl rfl (by (try simp only [List.map_toArray, List.map_cons, List.map_nil]); first | done | rfl) ?_
          refine (HG.out _).mono ?_
          rintro e w5 ⟨rfl, hb5⟩
          refine ⟨_, rfl, hK.out _ _ (hH2.below hb5) (fun hH3 => ?_)⟩
          clear hK K
          refine norm_ (a' := ?_) ?_ ?_
          rotate_left
          · simp only [Act.put, List.setIfInBounds_toArray, List.set_cons_zero, List.set_cons_succ]
            rfl
          refine pure_ (i := 6) (N := some 32) (v := .tuple #[.agg (lc y), .bool z]) (a' := ?_) #[true, true, true, true, true, true, true, false, false, true, false, false] rfl rfl (by kernel_rfl) (fun _ _ _ h => h) (Or.inl ⟨rfl, fun w' => by kernel_rfl⟩) ?_ ?_
          rotate_left
          · simp only [Act.put, List.setIfInBounds_toArray, List.set_cons_zero, List.set_cons_succ]
            rfl
          refine pure_ (i := 7) (N := some 39) (v := .agg (lc y)) (a' := ?_) #[true, true, true, true, true, true, true, true, false, true, false, false] rfl rfl (by kernel_rfl) (fun _ _ _ h => h) (Or.inl ⟨rfl, fun w' => by kernel_rfl⟩) ?_ ?_
          rotate_left
          · simp only [Act.put, List.setIfInBounds_toArray, List.set_cons_zero, List.set_cons_succ]
            rfl
          refine pure_ (i := 8) (N := some 40) (v := .bool z) (a' := ?_) #[true, true, true, true, true, true, true, true, true, true, false, false] rfl rfl (by kernel_rfl) (fun _ _ _ h => h) (Or.inl ⟨rfl, fun w' => by kernel_rfl⟩) ?_ ?_
          rotate_left
          · simp only [Act.put, List.setIfInBounds_toArray, List.set_cons_zero, List.set_cons_succ]
            rfl
          refine last_ (i := 10) (N := none) #[true, true, true, true, true, true, true, true, true, true, true, false] rfl rfl (by kernel_rfl) (by simp) (fun K hK => ?_)
          refine if_wanted rfl (wp_store_row 57 _ _ rfl W4.heap.size (lc y) rfl rfl 57 (lc z0) (blk_below (heap_alloc_new W4 (.cells (lc z0) 57)) hb5) (info57 y) rfl (lc_all y) (hK.out _ _ ?_))
          clear hK K
          refine norm_ (a' := ?_) ?_ ?_
          rotate_left
          · simp only [Act.put, List.setIfInBounds_toArray, List.set_cons_zero, List.set_cons_succ]
            rfl
          refine pure_ (i := 11) (N := some 12) (v := .bool z) (a' := ?_) #[true, true, true, true, true, true, true, true, true, true, true, true] rfl rfl (by kernel_rfl) (fun _ _ _ h => h) (Or.inl ⟨rfl, fun w' => by kernel_rfl⟩) ?_ ?_
          rotate_left
          · simp only [Act.put, List.setIfInBounds_toArray, List.set_cons_zero, List.set_cons_succ]
            rfl
          refine done_ (by kernel_rfl) ?_
          have hbE := Lib.hid (fin2 HBL.out hb5 (lc y))
          have bE := setRow_heap _ _ _ (lc y) _ _ (blk_below (heap_alloc_new W4 (.cells (lc z0) 57)) hb5)
          have f0 := (blk_cell bE 2).trans rfl
          have hgE := blk_lt bE
          have R3 := Lib.hid (HR.out.below hbE.out)
          have hszE := Nat.le_trans hsz hbE.out.size
          generalize w5.setRow W4.heap.size (lc y) = wE at R3 f0 hgE hbE hszE ⊢
          clear bE
          go_wp2_with (at_builtin; refine wpList_append_own _ rfl _ _ 97 rfl W1.heap.size 50 i0 (.int .u64 0) 1 8 Try.underlying97 hi hz0 hz1 hz2 rfl (by decide) _ _ _ rfl (R3.out.own.alloc _) ⟨wE.heap.size, 0, none⟩ 1 1 [.int .u64 y.r] rfl rfl (cell_one_new _ _ _) (ints_oneCell .u64 [y.r]) (by unfold maxLen; omega) (by omega) (by simp; omega) ?_; intro v' w7 hown' hgrow _; have HP := Lib.hid (R3.out.push hkv HVK.out hown' hgrow); clear hown' hgrow)
          go_roundw
          case rel => exact ⟨k + 1, by go_num, hlt, HP.out⟩
          case measure => simp [intOf]; omega
    · obtain rfl : k = l.length := by omega
      have hown := R.own
      rw [List.take_of_length_le (by rw [HVL.out]; exact Nat.le_refl _)] at hown
      obtain ⟨g, cap, cur, hv, hge, hgb, hcap, hcm, hcs, hrow⟩ := UR.row (l := vs) (uR_of_owns (by rw [HVL.out]; exact hown)) (by intro e; have := HVL.out; rw [e] at this; simp at this; omega)
      rw [HVL.out] at hv
      subst hv
      have HROW := Lib.hid (hrow.uc (by rw [HVL.out]; omega))
      have HQ := Lib.hid (HQU wr hb0)
      have HGR := fun w' (hb : Below wr.heap.size wr w') => Lib.hid (greatest_ok w' _ cap vs ((UC_iff.2 ((UC_iff.1 HROW.out).imp_right (fun h h0 => by
        obtain ⟨ad, e, hcc⟩ := h h0
        exact ⟨ad, e, fun j hj => (hb.cell (World.block_lt_of_cell? _ _ (hcc j hj))).trans (hcc j hj)⟩)) : UC w' _ vs)) (by omega) (by rw [HVL.out]; omega) ((l.length : Int) / 2 + 1))
      rw [HVL.out] at HGR
      have HB0 := Lib.hid hb0
      clear hown R hrow hgb hcs hcm hge hb0
      generalize hqn : (l.length : Int) / 2 + 1 = qn at HQ HGR
      have HQN := Lib.hid hqn
      clear hqn
      go_wp2_with (first
        | (go_at_call 60; refine HQ.out.out.mono ?_; rintro e w5 ⟨rfl, hb5⟩)
        | (go_at_call 59; refine (HGR w5 hb5).out.mono ?_; rintro e w6 ⟨r, rfl, hr, hb6⟩))
      go_ret
      have b5 := HB0.out.trans (hb5.mono HB0.out.size)
      have b6 := b5.trans (hb6.mono b5.size)

      exact ⟨r, rfl, by rw [HQN.out]; exact hr, b6⟩
end Go.Proofs.Ytibdjmmhdggpfaa

/-
  The document's Nodes.
-/
namespace Go.Proofs.Ytibdjmmhdggpfaa
set_option linter.unusedVariables false
set_option linter.unusedSimpArgs false
open Go.Proofs.YtibdjmmhdggpfaaW.PrintLast Go.RowKit Go.Maps Go.Proofs.YtibdjmmhdggpfaaW.PrintWords Go.Proofs.YtibdjmmhdggpfaaW.PrintMore Go.Proofs.Ytibdjmmhdggpfaa.PPollPlays Go.Proofs.Ytibdjmmhdggpfaa.pure Go.Proofs.Ytibdjmmhdggpfaa.fmap

structure RN (W1 : World) (t : Tb) (k : Nat) (v : Value) (s : List Int) (wr : World) : Prop where
  own : wr.ownsRow W1.heap.size 3 1 v s.length (s.map (Value.int .i64))
  eq : s = (nodes.take k).filter (fun x => (t x).isSome)
  bel : Below W1.heap.size W1 wr
theorem RN.len {W1 : World} {t : Tb} {k : Nat} {v : Value} {s : List Int} {wr : World} (h : RN W1 t k v s wr) : s.length ≤ 7 := by
  rw [h.eq]
  exact Nat.le_trans (List.length_filter_le _ _) (Nat.le_trans (List.length_take_le' _ _) (by unfold nodes; simp))
theorem RN.next_in {W1 : World} {t : Tb} {k : Nat} {v v' : Value} {s : List Int} {wr w2 : World} {o : Obj} (h : RN W1 t k v s wr) (hk : k < 7) (ha : (t (k : Int)).isSome = true)
    (hown : w2.ownsRow W1.heap.size 3 1 v' (s.length + 1) (s.map (Value.int .i64) ++ [.int .i64 k])) (hg : (wr.alloc o).grownBy w2 v.ownBlock) : RN W1 t (k + 1) v' (s ++ [(k : Int)]) w2 := by
  refine ⟨by simpa using hown, ?_, ?_⟩
  · rw [nodes_take hk, List.filter_append, ← h.eq]
    simp [ha]
  · have b2 := h.bel.alloc h.bel.size o
    exact b2.grown hg b2.size (fun k e => (h.own.lt k e).1)
theorem RN.next_out {W1 : World} {t : Tb} {k : Nat} {v : Value} {s : List Int} {wr : World} (h : RN W1 t k v s wr) (hk : k < 7) (ha : (t (k : Int)).isSome = false) : RN W1 t (k + 1) v s wr := by
  refine ⟨h.own, ?_, h.bel⟩
  rw [nodes_take hk, List.filter_append, ← h.eq]
  simp [ha]

set_option maxRecDepth 100000 in
set_option maxHeartbeats 1000000 in
theorem rnodes_ok (w : World) (cs : Array Value) (t : Tb) (hR : RT cs t) : Calls Try.prog 57 #[.agg cs] w (Gives w (tnodes t)) := by
  obtain ⟨i0, hin, hz0, hz1, hz2⟩ := info_parts infoI
  have HR := Lib.hid hR
  have hu60 := Try.underlying60
  have A1 := heap_alloc_new w (.cells cs 60)
  have HB1 := alloc_below w (.cells cs 60)
  clear hR
  go_enter Try.func57, Try.ntmps57
  go_wp2
  have R0 : RN (w.alloc (.cells cs 60)) t 0 (.slice none 0 0) [] (w.alloc (.cells cs 60)) := ⟨World.ownsRow_nil _ _ _ _, rfl, Below.refl _ _⟩
  generalize w.alloc (.cells cs 60) = W1 at A1 HB1 R0 ⊢
  generalize hga : w.heap.size = ga at A1 ⊢
  rw [hga] at HB1
  have HA1 := Lib.hid A1
  have HB1 := Lib.hid HB1
  have HGA := Lib.hid hga
  clear A1 hga
  go_loopw [3, 4] (fun v i wr => ∃ (k : Nat) (s : List Int), i = .int .i64 k ∧ k ≤ 7 ∧ RN W1 t k v s wr) (fun _ i _ => 7 - (intOf i).toNat)
  case atStart => exact ⟨0, [], rfl, by omega, R0⟩
  case round =>
    clear R0
    obtain ⟨k, s, rfl, hk, R⟩ := hrel
    have HRR := Lib.hid R
    have hsl := R.len
    have hsz := R.bel.size
    by_cases hlt : k < 7
    · have hlt' : (k : Int) < 7 := by omega
      have hh := (blk_cell (blk_below HA1.out R.bel) k).trans (HR.out.has k hlt)
      clear R
      rcases hx : (t (k : Int)).isSome with _ | _
      · have HNX := Lib.hid (HRR.out.next_out hlt hx)
        rw [hx] at hh
        clear hx
        go_wp2
        go_roundw
        case rel => exact ⟨k + 1, _, by go_num, hlt, HNX.out⟩
        case measure => simp [intOf]; omega
      · have HAL := Lib.hid hx
        rw [hx] at hh
        clear hx
        go_wp2_with (at_builtin; refine wpList_append_own _ rfl _ _ 22 rfl W1.heap.size 3 i0 (.int .i64 0) 1 8 Try.underlying22 hin hz0 hz1 hz2 rfl (by decide) _ _ _ rfl (HRR.out.own.alloc _) ⟨wr.heap.size, 0, none⟩ 1 1 [.int .i64 k] rfl rfl (cell_one_new _ _ _) (ints_oneCell .i64 [(k : Int)]) (by unfold maxLen; omega) (by omega) (by simp; omega) ?_; intro v' w2 hown' hgrow _; have HNX := Lib.hid (HRR.out.next_in hlt HAL.out hown' hgrow); clear hown' hgrow)
        go_roundw
        case rel => exact ⟨k + 1, _, by go_num, hlt, HNX.out⟩
        case measure => simp [intOf]; omega
    · obtain rfl : k = 7 := by omega
      go_wp2
      go_ret
      have hs : s = tnodes t := by rw [R.eq]; rfl
      have b1 := HB1.out
      rw [← HGA.out] at b1
      have hrow := ownsRow_base_a (base' := w.heap.size) R.own b1.size
      rw [hs] at hrow
      exact ⟨_, rfl, intR_of_owns hrow, b1.trans (R.bel.mono b1.size)⟩
end Go.Proofs.Ytibdjmmhdggpfaa

/-
  The laws' like: a table in memory beside the document's.
-/
namespace Go.Proofs.Ytibdjmmhdggpfaa
set_option linter.unusedVariables false
set_option linter.unusedSimpArgs false
open Go.Proofs.YtibdjmmhdggpfaaW.PrintLast Go.RowKit Go.Maps Go.Proofs.YtibdjmmhdggpfaaW.PrintWords Go.Proofs.YtibdjmmhdggpfaaW.PrintMore Go.Proofs.Ytibdjmmhdggpfaa.PPollPlays Go.Proofs.Ytibdjmmhdggpfaa.pure Go.Proofs.Ytibdjmmhdggpfaa.fmap

theorem neq66 (y : Ln) (w : World) : (Go.binOp BinOp.neq 66 (.agg (lc y)) (.agg (lc y))).run Try.prog w = .ok (.bool false) w := by
  have hu := Try.underlying66
  have hu50 := Try.underlying50
  have hu4 := Try.underlying4
  obtain ⟨m, n, r, a⟩ := y
  simp [go_sem, hu, hu50, hu4]
theorem tnodes_len (t : Tb) : (tnodes t).length ≤ 7 := Nat.le_trans (List.length_filter_le _ _) (by unfold nodes; simp)
theorem same_nodes (w : World) (A A' : Option Addr) (c c' : Nat) (t : Tb) (h : IntC w A (tnodes t)) (hc : (tnodes t).length ≤ c) (h' : IntC w A' (tnodes t)) (hc' : (tnodes t).length ≤ c') :
    Calls Try.prog 18 #[.slice A (tnodes t).length c, .slice A' (tnodes t).length c'] w fun e w' => e = .returned (.bool true) ∧ Below w.heap.size w w' :=
  (rsame w A c _ h hc (by have := tnodes_len t; omega) A' c' _ h' hc').mono fun e w' ⟨he, m, hm⟩ => ⟨by rw [he]; simp, by rw [hm]; exact drawn_below w m⟩

set_option maxRecDepth 100000 in
set_option maxHeartbeats 2000000 in
theorem like_ok (w : World) (B b bm : Nat) (bl : Int → Nat) (t : Tb) (hT : TAt w B b bm bl t) (cs : Array Value) (hR : RT cs t) :
    Calls Try.prog 30 #[.pointer (some ⟨b, 0, none⟩), .agg cs] w fun e w' => e = .returned (.bool true) ∧ Below w.heap.size w w' := by
  have hi60 := info60 hR.size
  have hu60 := Try.underlying60
  have hu57 := Try.underlying57
  have hu66 := Try.underlying66
  have hz57 := zero57
  have hq := neq66
  have HR := Lib.hid hR
  have HT := Lib.hid hT
  have A1 := heap_alloc_new w (.cells cs 60)
  have HB1 := alloc_below w (.cells cs 60)
  clear hR hT
  go_enter Try.func30, Try.ntmps30
  go_upto_region 1 with (fail)
  generalize w.alloc (.cells cs 60) = W1 at A1 HB1 ⊢
  have HB1 := Lib.hid HB1
  generalize hga : w.heap.size = ga at A1 ⊢
  have HA1 := Lib.hid A1
  have HGA := Lib.hid hga
  clear A1 hga
  refine start_ (n := 6) (S := RowA ga cs) (ds := []) #[false, false, false, false, false, false] (by kernel_rfl) rfl rfl ⟨HA1.out⟩ (fun hHeld => ?_)
  have HBL := Lib.hid (show Below w.heap.size w W1.drew from HB1.out.trans ((⟨rfl, rfl, rfl, Nat.le_refl _, fun _ _ => rfl⟩ : Below W1.heap.size W1 W1.drew).mono HB1.out.size))
  have HT4 := Lib.hid (HT.out.below HBL.out)
  generalize W1.drew = W4 at hHeld HBL HT4 ⊢
  refine pure_ (i := 0) (N := some 10) (v := .pointer (some ⟨b, 0, none⟩)) (a' := ?_) #[true, false, false, false, false, false] rfl rfl (by kernel_rfl) (fun _ _ _ h => h) (Or.inl ⟨rfl, fun w' => by kernel_rfl⟩) ?_ ?_
  rotate_left
  · simp only [Act.put, List.setIfInBounds_toArray, List.set_cons_zero, List.set_cons_succ]
    rfl
  refine take_ (i := 2) (N := some 12) (v := .agg cs) (a' := ?_) #[true, false, true, false, false, false] rfl rfl (by kernel_rfl) (fun _ _ _ h => h) (Or.inl ⟨rfl, fun w' h => h.exec hi60 rfl rfl⟩) hHeld ?_ ?_
  rotate_left
  · simp only [Act.put, List.setIfInBounds_toArray, List.set_cons_zero, List.set_cons_succ]
    rfl
  refine one_ (i := 1) (N := some 11) #[true, true, true, false, false, false] rfl rfl (by kernel_rfl) (by simp) (fun K hK => ?_)
  refine goes_ Try.func34 (by kernel_rfl) rfl #[.pointer (some ⟨b, 0, none⟩)] (by rfl) rfl rfl (by (try simp only [List.map_toArray, List.map_cons, List.map_nil]); first | done | rfl) ?_
  refine (Nodes_ok W4 B b bm bl t HT4.out).mono ?_
  rintro e w5 ⟨v1, rfl, hI1, hb5⟩
  obtain ⟨A1, c1, rfl, hc1, hC1⟩ := hI1.reads
  refine ⟨_, rfl, hK.out _ _ ⟨blk_below hHeld.a hb5⟩ (fun hH2 => ?_)⟩
  clear hK K
  refine norm_ (a' := ?_) ?_ ?_
  rotate_left
  · simp only [Act.put, List.setIfInBounds_toArray, List.set_cons_zero, List.set_cons_succ]
    rfl
  refine one_ (i := 3) (N := some 13) #[true, true, true, true, false, false] rfl rfl (by kernel_rfl) (by simp) (fun K hK => ?_)
  refine goes_ Try.func57 (by kernel_rfl) rfl #[.agg cs] (by rfl) rfl rfl (by (try simp only [List.map_toArray, List.map_cons, List.map_nil]); first | done | rfl) ?_
  refine (rnodes_ok w5 cs t HR.out).mono ?_
  rintro e w6 ⟨v2, rfl, hI2, hb6⟩
  obtain ⟨A2, c2, rfl, hc2, hC2⟩ := hI2.reads
  refine ⟨_, rfl, hK.out _ _ ⟨blk_below hH2.a hb6⟩ (fun hH3 => ?_)⟩
  clear hK K
  refine norm_ (a' := ?_) ?_ ?_
  rotate_left
  · simp only [Act.put, List.setIfInBounds_toArray, List.set_cons_zero, List.set_cons_succ]
    rfl
  refine one_ (i := 4) (N := some 14) #[true, true, true, true, true, false] rfl rfl (by kernel_rfl) (by simp) (fun K hK => ?_)
  refine goes_ Try.func18 (by kernel_rfl) rfl #[.slice A1 (tnodes t).length c1, .slice A2 (tnodes t).length c2] (by rfl) rfl rfl (by (try simp only [List.map_toArray, List.map_cons, List.map_nil]); first | done | rfl) ?_
  refine (same_nodes w6 A1 A2 c1 c2 t (hC1.below hb6) hc1 hC2 hc2).mono ?_
  rintro e w7 ⟨rfl, hb7⟩
  refine ⟨_, rfl, hK.out _ _ ⟨blk_below hH3.a hb7⟩ (fun hH4 => ?_)⟩
  clear hK K
  refine norm_ (a' := ?_) ?_ ?_
  rotate_left
  · simp only [Act.put, List.setIfInBounds_toArray, List.set_cons_zero, List.set_cons_succ]
    rfl
  refine pure_ (i := 5) (N := some 15) (v := .bool false) (a' := ?_) #[true, true, true, true, true, true] rfl rfl (by kernel_rfl) (fun _ _ _ h => h) (Or.inl ⟨rfl, fun w' => by kernel_rfl⟩) ?_ ?_
  rotate_left
  · simp only [Act.put, List.setIfInBounds_toArray, List.set_cons_zero, List.set_cons_succ]
    rfl
  refine done_ (by kernel_rfl) ?_
  have b5 := HBL.out.trans (hb5.mono HBL.out.size)
  have b6 := b5.trans (hb6.mono b5.size)
  have R0 := b6.trans (hb7.mono b6.size)
  have HA7 := Lib.hid hH4.a
  clear hb5 hb6 hb7 b5 b6 hH2 hH3 hH4 hHeld HT4 HBL hC1 hC2 hI1 hI2 hc1 hc2
  go_wp2
  go_loopw [5] (fun i wr => ∃ n : Int, i = .int .i64 n ∧ -1 ≤ n ∧ n ≤ 8 ∧ Below w.heap.size w wr ∧ wr.heap[ga]? = some (.cells cs 60 (0, 0))) (fun i _ => (8 - intOf i).toNat)
  case atStart => exact ⟨-1, rfl, by omega, by omega, R0, HA7.out⟩
  case round =>
    clear R0
    obtain ⟨n, rfl, hn0, hn8, hb, hA⟩ := hrel
    have HB := Lib.hid hb
    have HAA := Lib.hid hA
    by_cases hlt : n < 8
    · have HL := Lib.hid (Line_ok wr B b bm bl t (HT.out.below hb) n (WalkArith.wf_i64 (by omega)))
      have HG := Lib.hid (fun W => rget_ok W cs t HR.out n)
      clear hb hA
      generalize lnz t n = y at HL HG
      generalize (t n).isSome = z at HL HG
      go_wp2_with (first
        | (go_at_call 28; refine HL.out.mono ?_; rintro e u6 ⟨rfl, hb6⟩; have b6 := HB.out.trans (hb6.mono HB.out.size); have ha6 := Lib.hid (blk_alloc (blk_below HAA.out hb6) (.cells (lc y) 66)); have g6 := Lib.hid (heap_alloc_new u6 (.cells (lc y) 66)); have B6 := Lib.hid (b6.trans ((alloc_below u6 (.cells (lc y) 66)).mono b6.size)); clear hb6 b6)
        | ((with_reducible refine wpList_load_row rfl 60 _ rfl ga ?_ 60 cs (0, 0) _ ha6.out Try.underlying60 ?_ hi60 ?_); rfl; rfl)
        | (go_at_call 58; refine (HG.out _).mono ?_; rintro e u7 ⟨rfl, hb7⟩; have A7 := Lib.hid (blk_below ha6.out hb7); have g7 := blk_below g6.out hb7; have B7 := Lib.hid (B6.out.trans (hb7.mono B6.out.size)); have f0 := (blk_cell g7 0).trans rfl; have f1 := (blk_cell g7 1).trans rfl; have f2 := (blk_cell g7 2).trans rfl; have f3 := (blk_cell g7 3).trans rfl; have hg7 := blk_lt g7; clear hb7 g7))
      all_goals
        go_roundw
        case rel => exact ⟨n + 1, by go_num, by omega, by omega, B7.out.trans ((alloc_below _ _).mono B7.out.size), blk_alloc A7.out _⟩
        case measure => simp [intOf]; omega
    · obtain rfl : n = 8 := by omega
      clear hb hA
      go_wp2
      go_ret
      exact ⟨rfl, HB.out⟩
end Go.Proofs.Ytibdjmmhdggpfaa

/-
  For ProgressPlays: what each side answers, and what holds at the head of each round.
-/
namespace Go.Proofs.Ytibdjmmhdggpfaa
set_option linter.unusedVariables false
set_option linter.unusedSimpArgs false
open Go.Proofs.YtibdjmmhdggpfaaW.PrintLast Go.RowKit Go.Maps Go.Proofs.YtibdjmmhdggpfaaW.PrintWords Go.Proofs.YtibdjmmhdggpfaaW.PrintMore Go.Proofs.Ytibdjmmhdggpfaa.PPollPlays Go.Proofs.Ytibdjmmhdggpfaa.pure Go.Proofs.Ytibdjmmhdggpfaa.fmap

set_option maxRecDepth 100000 in
theorem ragreed_no (w : World) (cs : Array Value) (A : Option Addr) (c : Nat) (l : List Int) (hC : IntC w A l) (hc : l.length ≤ c) (hs : snd l = false) (self own : Int) :
    Calls Try.prog 31 #[.agg cs, .slice A l.length c, .int .i64 self, .int .u64 own] w fun e w' => e = .returned (.int .u64 0) ∧ Below w.heap.size w w' := by
  have HS := fun w' hb => Lib.hid (rsound w' A c l (hC.below hb) hc)
  rw [hs] at HS
  have HB1 := alloc_below w (.cells cs 60)
  clear hC hs
  go_enter Try.func31, Try.ntmps31
  go_wp2_with (go_at_call 13; refine (HS _ HB1).out.mono ?_; rintro e w2 ⟨rfl, hb2⟩)
  go_ret
  exact ⟨rfl, HB1.trans (hb2.mono HB1.size)⟩
set_option maxRecDepth 100000 in
theorem ranswered_no (w : World) (cs : Array Value) (A : Option Addr) (c : Nat) (l : List Int) (hC : IntC w A l) (hc : l.length ≤ c) (hs : snd l = false) (self own : Int) :
    Calls Try.prog 33 #[.agg cs, .slice A l.length c, .int .i64 self, .int .u64 own] w fun e w' => e = .returned (.int .u64 0) ∧ Below w.heap.size w w' := by
  have HS := fun w' hb => Lib.hid (rsound w' A c l (hC.below hb) hc)
  rw [hs] at HS
  have HB1 := alloc_below w (.cells cs 60)
  clear hC hs
  go_enter Try.func33, Try.ntmps33
  go_wp2_with (go_at_call 13; refine (HS _ HB1).out.mono ?_; rintro e w2 ⟨rfl, hb2⟩)
  go_ret
  exact ⟨rfl, HB1.trans (hb2.mono HB1.size)⟩
/-- What either side answers. -/
def Says1 (l vs : List Int) (v : Int) : Prop := (snd l = true → Quo vs v) ∧ (snd l = false → v = 0)
def Says2 (l vs : List Int) (v : Int) : Prop := (snd l = true → Great vs ((l.length : Int) / 2 + 1) l.length v) ∧ (snd l = false → v = 0)
theorem says_same {l vs : List Int} {v r : Int} (h1 : Says1 l vs v) (h2 : Says2 l vs r) (hl : vs.length = l.length) (h0 : ∀ x ∈ vs, 0 ≤ x) : r = v := by
  cases hs : snd l with
  | false => rw [h1.2 hs, h2.2 hs]
  | true =>
    have hg := h2.1 hs
    rw [← hl] at hg
    exact Great.quo (h1.1 hs) h0 hg
theorem vals_len (t : Tb) (self own : Int) (f : Ln → Int) (l : List Int) : (vals t self own f l).length = l.length := by simp [vals]
theorem vals_m0 {t : Tb} (h : TOk t) {self own : Int} (ho : 0 ≤ own) (l : List Int) : ∀ x ∈ vals t self own (·.m) l, 0 ≤ x := by
  intro x hx
  unfold vals at hx
  obtain ⟨n, _, rfl⟩ := List.mem_map.1 hx
  dsimp only
  split
  · exact ho
  · unfold lnz
    cases ht : t n with
    | none => exact Int.le_refl _
    | some y => exact (h.ok n y ht).m0
theorem vals_r0 {t : Tb} (h : TOk t) {self own : Int} (ho : 0 ≤ own) (l : List Int) : ∀ x ∈ vals t self own (·.r) l, 0 ≤ x := by
  intro x hx
  unfold vals at hx
  obtain ⟨n, _, rfl⟩ := List.mem_map.1 hx
  dsimp only
  split
  · exact ho
  · unfold lnz
    cases ht : t n with
    | none => exact Int.le_refl _
    | some y => exact (h.ok n y ht).r0
theorem a1 (w : World) (p : Value) (t : Tb) (hL : LineAt w p t) (A : Option Addr) (c : Nat) (l : List Int) (hC : IntC w A l) (hc : l.length ≤ c) (hl : l.length ≤ 100) (self own : Int) :
    Calls Try.prog 26 #[p, .slice A l.length c, .int .i64 self, .int .u64 own] w fun e w' => ∃ v, e = .returned (.int .u64 v) ∧ Says1 l (vals t self own (·.m) l) v ∧ Below w.heap.size w w' := by
  cases hs : snd l with
  | false => exact (agreed_no w p A c l hC hc hl hs self own).mono fun e w' he => ⟨0, he.1, ⟨(fun h => by rw [hs] at h; cases h), (fun _ => rfl)⟩, he.2⟩
  | true => exact (agreed_ok w p t hL A c l hC hc hs self own).mono fun e w' he => by obtain ⟨v, h1, h2, h3⟩ := he; exact ⟨v, h1, ⟨(fun _ => h2), (fun h => by rw [hs] at h; cases h)⟩, h3⟩
theorem a2 (w : World) (p : Value) (t : Tb) (hL : LineAt w p t) (A : Option Addr) (c : Nat) (l : List Int) (hC : IntC w A l) (hc : l.length ≤ c) (hl : l.length ≤ 100) (self own : Int) :
    Calls Try.prog 32 #[p, .slice A l.length c, .int .i64 self, .int .u64 own] w fun e w' => ∃ v, e = .returned (.int .u64 v) ∧ Says1 l (vals t self own (·.r) l) v ∧ Below w.heap.size w w' := by
  cases hs : snd l with
  | false => exact (answered_no w p A c l hC hc hl hs self own).mono fun e w' he => ⟨0, he.1, ⟨(fun h => by rw [hs] at h; cases h), (fun _ => rfl)⟩, he.2⟩
  | true => exact (answered_ok w p t hL A c l hC hc hs self own).mono fun e w' he => by obtain ⟨v, h1, h2, h3⟩ := he; exact ⟨v, h1, ⟨(fun _ => h2), (fun h => by rw [hs] at h; cases h)⟩, h3⟩
theorem d1 (w : World) (cs : Array Value) (t : Tb) (hR : RT cs t) (A : Option Addr) (c : Nat) (l : List Int) (hC : IntC w A l) (hc : l.length ≤ c) (self own : Int) :
    Calls Try.prog 31 #[.agg cs, .slice A l.length c, .int .i64 self, .int .u64 own] w fun e w' => ∃ v, e = .returned (.int .u64 v) ∧ Says2 l (vals t self own (·.m) l) v ∧ Below w.heap.size w w' := by
  cases hs : snd l with
  | false => exact (ragreed_no w cs A c l hC hc hs self own).mono fun e w' he => ⟨0, he.1, ⟨(fun h => by rw [hs] at h; cases h), (fun _ => rfl)⟩, he.2⟩
  | true => exact (ragreed_ok w cs t hR A c l hC hc hs self own).mono fun e w' he => by obtain ⟨v, h1, h2, h3⟩ := he; exact ⟨v, h1, ⟨(fun _ => h2), (fun h => by rw [hs] at h; cases h)⟩, h3⟩
theorem d2 (w : World) (cs : Array Value) (t : Tb) (hR : RT cs t) (A : Option Addr) (c : Nat) (l : List Int) (hC : IntC w A l) (hc : l.length ≤ c) (self own : Int) :
    Calls Try.prog 33 #[.agg cs, .slice A l.length c, .int .i64 self, .int .u64 own] w fun e w' => ∃ v, e = .returned (.int .u64 v) ∧ Says2 l (vals t self own (·.r) l) v ∧ Below w.heap.size w w' := by
  cases hs : snd l with
  | false => exact (ranswered_no w cs A c l hC hc hs self own).mono fun e w' he => ⟨0, he.1, ⟨(fun h => by rw [hs] at h; cases h), (fun _ => rfl)⟩, he.2⟩
  | true => exact (ranswered_ok w cs t hR A c l hC hc hs self own).mono fun e w' he => by obtain ⟨v, h1, h2, h3⟩ := he; exact ⟨v, h1, ⟨(fun _ => h2), (fun h => by rw [hs] at h; cases h)⟩, h3⟩
theorem exec_neq50 {o : Oper} {ev : Operand → Value} {x y : Operand} {v : Int} (ho : o.op = .binOp .neq 50 x y 50) (hx : ev x = .int .u64 v) (hy : ev y = .int .u64 v) (W : World) : (execOp ev o).run Try.prog W = .ok (.value (.bool false)) W := by
  have hu := Try.underlying50
  unfold execOp
  simp only [ho, hx, hy]
  simp [go_sem, hu]
theorem wpList_load_row_g {P : Program} {ops : Array Oper} {rest : List Oper} {o : Oper} {a : Act} {w : World} {Q : Exit → Act → World → Prop} (hw : Region.wanted o (yielded ops a.tmps) = true) (ty : TypeId) (x : Operand) (ho : o.op = .load ty x)
    (g : Nat) (hx : a.eval x = .pointer (some ⟨g, 0, none⟩)) (t : TypeId) (cs : Array Value) (fr : Nat × Nat) (d : TypeDesc) (hg : w.heap[g]? = some (.cells cs t fr))
    (hu : P.underlying ty = some d) (hd : (match d with | .struct _ | .array _ _ => true | _ => false) = true) (hi : (P.info? ty).map (·.size) = some cs.size)
    (h : wpList P ops Q rest (a.put o.dst (.agg cs)) w) : wpList P ops Q (o :: rest) a w :=
  wpList_step fun K hK => by
    rw [if_pos hw]
    unfold Oper.wp execOp
    simp only [ho, hx, Instr.loadAt, Instr.sureAddr, Sem.run_bind, Sem.run_pure, Result.andThen_ok, run_loadVar_row w g t ty cs fr d hg hu hd hi]
    exact hK _ _ h
/-- What holds at the head of each round. -/
structure PR (W1 : World) (b bm : Nat) (bl : Int → Nat) (t : Tb) (g : Nat) (cs : Array Value) (wr : World) : Prop where
  inv : Inv W1 b bm bl t wr
  row : wr.heap[g]? = some (.cells cs 60 (0, 0))
  lg : W1.heap.size ≤ g
section
variable {W1 wr w' : World} {b bm : Nat} {bl bl' : Int → Nat} {t t' : Tb} {g : Nat} {cs cs' : Array Value}
theorem PR.below (H : PR W1 b bm bl t g cs wr) (hb : Below wr.heap.size wr w') : PR W1 b bm bl t g cs w' := ⟨H.inv.below hb, blk_below H.row hb, H.lg⟩
theorem PR.step (H : PR W1 b bm bl t g cs wr) (hT : TAt w' W1.heap.size b bm bl' t') (hS : Step bm bl t bl' t' wr w') : PR W1 b bm bl' t' g cs w' :=
  ⟨H.inv.step hT hS, hS.blk H.row (H.inv.at_.ne H.row (by decide) (by decide)).2, H.lg⟩
theorem PR.put (H : PR W1 b bm bl t g cs wr) (cs' : Array Value) : PR W1 b bm bl t g cs' (wr.setRow g cs') := by
  have n1 := H.inv.at_.ne H.row (by decide) (by decide)
  exact ⟨⟨H.inv.at_.setRow n1.1 n1.2 _, below_setRow H.inv.bel H.lg _⟩, setRow_heap _ _ _ _ _ _ H.row, H.lg⟩
theorem PR.new (H : PR W1 b bm bl t g cs wr) (c1 c2 : Array Value) : PR W1 b bm bl t g cs ((wr.alloc (.cells c1 60)).setRow wr.heap.size c2) :=
  H.below (below_setRow (alloc_below _ _) (Nat.le_refl _) _)
end
end Go.Proofs.Ytibdjmmhdggpfaa
