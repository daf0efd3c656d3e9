/-
  What a quorum has: progress.reached, Agreed, Answered.
-/
import Derived.Test.YtibdjmmhdggpfaaGNew
import Derived.Test.YtibdjmmhdggpfaaGSort
namespace Go.Proofs.Ytibdjmmhdggpfaa
set_option linter.unusedVariables false
set_option linter.unusedSimpArgs false
open Go.RowKit Go.Maps Go.Proofs.YtibdjmmhdggpfaaW.PrintWords Go.Proofs.YtibdjmmhdggpfaaW.PrintMore Go.Proofs.Ytibdjmmhdggpfaa.PPollPlays Go.Proofs.Ytibdjmmhdggpfaa.pure Go.Proofs.Ytibdjmmhdggpfaa.fmap

/-- Whatever lies at p tells the lines t. -/
def LineAt (w : World) (p : Value) (t : Tb) : Prop :=
  ∀ (w' : World) (n : Int), Below w.heap.size w w' → (Lit.int .i64 n).wf = true → Calls Try.prog 28 #[p, .int .i64 n] w' fun e w'' => e = .returned (.tuple #[lv (lnz t n), .bool (t n).isSome]) ∧ Below w'.heap.size w' w''
theorem TAt.lines {w : World} {B b bm : Nat} {bl : Int → Nat} {t : Tb} (h : TAt w B b bm bl t) : LineAt w (.pointer (some ⟨b, 0, none⟩)) t :=
  fun w' n hb hw => Line_ok w' B b bm bl t (h.below hb) n hw
theorem LineAt.below {w w' : World} {p : Value} {t : Tb} (h : LineAt w p t) (hb : Below w.heap.size w w') : LineAt w' p t :=
  fun w'' n hb' hw => h w'' n (hb.trans (hb'.mono hb.size)) hw

/-- What each member has. -/
def vals (t : Tb) (self own : Int) (f : Ln → Int) (l : List Int) : List Int := l.map (fun n => if n = self then own else f (lnz t n))
/-- v is what a quorum of l has. -/
def Quo (l : List Int) (v : Int) : Prop := ∃ r : List Int, r.Pairwise (· ≤ ·) ∧ r.Perm l ∧ r[l.length - (l.length / 2 + 1)]? = some v

theorem match_ok (x : Ln) (w : World) : Calls Try.prog 55 #[lv x] w fun e w' => e = .returned (.int .u64 x.m) ∧ Below w.heap.size w w' := by
  go_enter Try.func55, Try.ntmps55
  go_wp2
  go_ret
  exact ⟨rfl, alloc_below _ _⟩
theorem round_ok (x : Ln) (w : World) : Calls Try.prog 61 #[lv x] w fun e w' => e = .returned (.int .u64 x.r) ∧ Below w.heap.size w w' := by
  go_enter Try.func61, Try.ntmps61
  go_wp2
  go_ret
  exact ⟨rfl, alloc_below _ _⟩
theorem infoU : (Try.prog.info? 50).map (fun i => (i.zero, i.size, i.bytes)) = some (some (.int .u64 0), 1, 8) := by kernel_rfl
theorem UC.nil {w : World} {A : Option Addr} : UC w A [] := by rw [UC_iff]; exact ⟨by simp, fun h => absurd h (by simp)⟩

/-- What reached hands back. -/
def Reach (w : World) (l vs : List Int) (e : Ending) (w' : World) : Prop := ∃ v, e = .returned (.int .u64 v) ∧ Quo vs v ∧ Below w.heap.size w w'
/-- k numbers of vs have been collected, in a slice of the call's own. -/
structure Col (w : World) (vs : List Int) (k : Nat) (v : Value) (wr : World) : Prop where
  own : wr.ownsRow w.heap.size 50 1 v k ((vs.take k).map (Value.int .u64))
  bel : Below w.heap.size w wr
theorem Col.start {w w1 : World} {vs : List Int} (hb : Below w.heap.size w w1) : Col w vs 0 (.slice none 0 0) w1 := ⟨World.ownsRow_nil _ _ _ _, hb⟩
theorem Col.below {w : World} {vs : List Int} {k : Nat} {v : Value} {wr w' : World} (R : Col w vs k v wr) (hb : Below wr.heap.size wr w') : Col w vs k v w' :=
  ⟨R.own.kept (nob_iff.1 hb) (by cases hv : v.ownBlock <;> simp), R.bel.trans (hb.mono R.bel.size)⟩
theorem Col.drew {w : World} {vs : List Int} {k : Nat} {v : Value} {wr : World} (R : Col w vs k v wr) : Col w vs k v wr.drew := R.below ⟨rfl, rfl, rfl, Nat.le_refl _, fun _ _ => rfl⟩
theorem Col.push {w : World} {vs : List Int} {k : Nat} {v v' : Value} {w3 w4 : World} {o : Obj} (R : Col w vs k v w3) (hk : k < vs.length) {z : Int} (hz : vs[k] = z)
    (hown : w4.ownsRow w.heap.size 50 1 v' (k + 1) ((vs.take k).map (Value.int .u64) ++ [.int .u64 z])) (hg : (w3.alloc o).grownBy w4 v.ownBlock) : Col w vs (k + 1) v' w4 where
  own := by
    rw [List.take_succ_eq_append_getElem hk, List.map_append, hz]
    exact hown
  bel := by
    have b2 := R.bel.alloc R.bel.size o
    exact b2.grown hg b2.size (fun k e => (R.own.lt k e).1)
theorem vals_get_self {t : Tb} {self own : Int} {f : Ln → Int} {l : List Int} {k : Nat} (hk : k < (vals t self own f l).length) (h : l[k]'(by simpa [vals] using hk) = self) : (vals t self own f l)[k] = own := by
  simp [vals, h]
theorem vals_get_other {t : Tb} {self own : Int} {f : Ln → Int} {l : List Int} {k : Nat} (hk : k < (vals t self own f l).length) (h : l[k]'(by simpa [vals] using hk) ≠ self) : (vals t self own f l)[k] = f (lnz t (l[k]'(by simpa [vals] using hk))) := by
  simp [vals, h]
theorem quo_pos {l : List Int} (h : snd l = true) : quo l = (l.length : Int) / 2 + 1 := by unfold quo; rw [if_pos h]

set_option maxRecDepth 100000 in
set_option maxHeartbeats 4000000 in
theorem reached_m (w : World) (p : Value) (t : Tb) (hL : LineAt w p t) (A : Option Addr) (c : Nat) (l : List Int) (hC : IntC w A l) (hc : l.length ≤ c) (hs : snd l = true) (self own : Int) :
    Calls Try.prog 54 #[p, .slice A l.length c, .int .i64 self, .int .u64 own, .func (.func 55) #[] #[]] w (Reach w l (vals t self own (·.m) l)) := by
  obtain ⟨i0, hi, hz0, hz1, hz2⟩ := info_parts infoU
  have hu66 := Try.underlying66
  have hl7 := snd_length hs
  have HS := Lib.hid (msound w A c l hC hc (by omega))
  rw [hs] at HS
  have HL := Lib.hid hL
  have HC := Lib.hid hC
  have HT := Lib.hid hs
  generalize hvs : vals t self own (·.m) l = vs
  have HV := Lib.hid hvs
  have hvl : vs.length = l.length := by rw [← hvs]; simp [vals]
  have HVL := Lib.hid hvl
  clear hs hL hC hvs hvl
  go_enter Try.func54, Try.ntmps54
  go_wp2_with (go_at_call 40; refine HS.out.mono ?_; rintro e w1 ⟨rfl, hb1⟩)
  have R0 : Col w vs 0 (.slice none 0 0) w1 := Col.start hb1
  clear HS hb1
  go_loopw [11, 23] (fun v i wr => ∃ k : Nat, i = .int .i64 k ∧ k ≤ l.length ∧ Col w vs k v wr) (fun _ i _ => l.length - (intOf i).toNat)
  case atStart => exact ⟨0, rfl, Nat.zero_le _, R0⟩
  case round =>
    clear R0
    obtain ⟨k, rfl, hk, R⟩ := hrel
    by_cases hlt : k < l.length
    · obtain ⟨ad, rfl, hcell⟩ := (IntC_iff.1 (HC.out.below R.bel)).2 (by omega)
      have hck := hcell k hlt
      have hwx := wf_node HT.out (List.getElem_mem hlt)
      have hkv : k < vs.length := by rw [HVL.out]; exact hlt
      generalize hx : l[k] = x at hck hwx
      have HX := Lib.hid hx
      have HR := Lib.hid R
      have hsz := R.bel.size
      clear hx R hcell
      have hln := Lib.hid (HL.out wr x HR.out.bel hwx)
      generalize hy : lnz t x = y at hln
      generalize hy2 : (t x).isSome = y2 at hln
      have HY := Lib.hid hy
      clear hy hy2
      by_cases hself : x = self
      · have HVK := Lib.hid (show vs[k] = own by have := HV.out; subst this; exact vals_get_self hkv (by rw [HX.out, hself]))
        have hne : (x == self) = true := by simpa using hself
        clear hself
        go_wp2_with (first
          | (go_at_call 28; refine hln.out.mono ?_; rintro e w2 ⟨rfl, hb2⟩)
          | (go_at_call 55; refine (match_ok y _).mono ?_; rintro e w3 ⟨rfl, hb3⟩; have hsz3 : w.heap.size ≤ w3.heap.size := (by have h2 := hb2.size; have h3 := hb3.size; simp at h3; omega); have R3 := Lib.hid (((HR.out.below hb2).below (alloc_below _ _)).below hb3))
          | (at_builtin; refine wpList_append_own _ rfl _ _ 97 rfl w.heap.size 50 i0 (.int .u64 0) 1 8 Try.underlying97 hi hz0 hz1 hz2 rfl (by decide) _ _ _ rfl (R3.out.own.alloc _) ⟨w3.heap.size, 0, none⟩ 1 1 [.int .u64 own] rfl rfl (cell_one_new _ _ _) (ints_oneCell .u64 [own]) (by unfold maxLen; omega) (by omega) (by simp; omega) ?_; intro v' w4 hown' hgrow _; have HP := Lib.hid (R3.out.push hkv HVK.out hown' hgrow); clear hown' hgrow))
        go_roundw
        case rel => exact ⟨k + 1, by go_num, hlt, HP.out⟩
        case measure => simp [intOf]; omega
      · have HVK := Lib.hid (show vs[k] = y.m by have := HV.out; subst this; rw [vals_get_other hkv (by rw [HX.out]; exact hself), HX.out, HY.out])
        have hne : (x == self) = false := by simpa using hself
        clear hself
        go_wp2_with (first
          | (go_at_call 28; refine hln.out.mono ?_; rintro e w2 ⟨rfl, hb2⟩)
          | (go_at_call 55; refine (match_ok y _).mono ?_; rintro e w3 ⟨rfl, hb3⟩; have hsz3 : w.heap.size ≤ w3.heap.size := (by have h2 := hb2.size; have h3 := hb3.size; simp at h3; omega); have R3 := Lib.hid (((HR.out.below hb2).below (alloc_below _ _)).below hb3))
          | (at_builtin; refine wpList_append_own _ rfl _ _ 97 rfl w.heap.size 50 i0 (.int .u64 0) 1 8 Try.underlying97 hi hz0 hz1 hz2 rfl (by decide) _ _ _ rfl (R3.out.own.alloc _) ⟨w3.heap.size, 0, none⟩ 1 1 [.int .u64 y.m] rfl rfl (cell_one_new _ _ _) (ints_oneCell .u64 [y.m]) (by unfold maxLen; omega) (by omega) (by simp; omega) ?_; intro v' w4 hown' hgrow _; have HP := Lib.hid (R3.out.push hkv HVK.out hown' hgrow); clear hown' hgrow))
        go_roundw
        case rel => exact ⟨k + 1, by go_num, hlt, HP.out⟩
        case measure => simp [intOf]; omega
    · obtain rfl : k = l.length := by omega
      have hown := R.own
      rw [List.take_of_length_le (by rw [HVL.out]; exact Nat.le_refl _)] at hown
      obtain ⟨g, cap, cur, hv, hge, hgb, hcap, hcm, hcs, hrow⟩ := UR.row (l := vs) (uR_of_owns (by rw [HVL.out]; exact hown)) (by intro e; have := HVL.out; rw [e] at this; simp at this; omega)
      rw [HVL.out] at hv
      subst hv
      have HSo := Lib.hid (sort_u wr g cap vs hrow (by rw [HVL.out]; omega) (by rw [HVL.out]; omega))
      rw [HVL.out] at HSo
      have HR := Lib.hid R
      have HG := Lib.hid hge
      have q1 := quo_pos HT.out
      obtain ⟨q, hq⟩ : ∃ q : Nat, q = l.length - (l.length / 2 + 1) := ⟨_, rfl⟩
      have hql : q < l.length := by omega
      have hsub : (l.length : Int) - ((l.length : Int) / 2 + 1) = q := by omega
      have HQ := Lib.hid hq
      have HQ1 := Lib.hid q1
      have hmq := fun w' hb => Lib.hid (mquorum w' A c l (HC.out.below hb) hc (by omega))
      rw [HQ1.out] at hmq
      generalize hqn : (l.length : Int) / 2 + 1 = qn at hsub hmq
      have hqn1 : 1 ≤ qn := by omega
      clear hown R hrow hgb hcs hcm hcap hge hq q1 hqn
      go_wp2_with (first
        | (go_at_call 74; refine HSo.out.mono ?_; rintro e w2 ⟨rfl, r, hr1, hr2, hr3, hg2⟩; have HB2 := Lib.hid (HR.out.bel.grown hg2 HR.out.bel.size (by intro k e; cases e; exact HG.out)); have HP := Lib.hid (And.intro hr1 hr2); have HRW := Lib.hid hr3; clear hr1 hr2 hg2 hr3)
        | (go_at_call 47; refine (hmq _ HB2.out).out.mono ?_; rintro e w3 ⟨rfl, hb3⟩; have hrl : r.length = l.length := HP.out.2.length_eq.trans HVL.out; have hcq : w3.cell? ⟨g, q, none⟩ = some (.int .u64 (r[q]'(by omega))) := ((hb3.cell (p := ⟨g, q, none⟩) (by obtain ⟨cs, hb, _⟩ := HRW.out; exact blk_lt hb)).trans (HRW.out.cell q (by omega)))))
      go_ret
      refine ⟨_, rfl, ⟨r, HP.out.1, HP.out.2, ?_⟩, HB2.out.trans (hb3.mono HB2.out.size)⟩
      rw [HVL.out, ← HQ.out]
      exact List.getElem?_eq_getElem _
set_option maxRecDepth 100000 in
set_option maxHeartbeats 4000000 in
theorem reached_r (w : World) (p : Value) (t : Tb) (hL : LineAt w p t) (A : Option Addr) (c : Nat) (l : List Int) (hC : IntC w A l) (hc : l.length ≤ c) (hs : snd l = true) (self own : Int) :
    Calls Try.prog 54 #[p, .slice A l.length c, .int .i64 self, .int .u64 own, .func (.func 61) #[] #[]] w (Reach w l (vals t self own (·.r) l)) := by
  obtain ⟨i0, hi, hz0, hz1, hz2⟩ := info_parts infoU
  have hu66 := Try.underlying66
  have hl7 := snd_length hs
  have HS := Lib.hid (msound w A c l hC hc (by omega))
  rw [hs] at HS
  have HL := Lib.hid hL
  have HC := Lib.hid hC
  have HT := Lib.hid hs
  generalize hvs : vals t self own (·.r) l = vs
  have HV := Lib.hid hvs
  have hvl : vs.length = l.length := by rw [← hvs]; simp [vals]
  have HVL := Lib.hid hvl
  clear hs hL hC hvs hvl
  go_enter Try.func54, Try.ntmps54
  go_wp2_with (go_at_call 40; refine HS.out.mono ?_; rintro e w1 ⟨rfl, hb1⟩)
  have R0 : Col w vs 0 (.slice none 0 0) w1 := Col.start hb1
  clear HS hb1
  go_loopw [11, 23] (fun v i wr => ∃ k : Nat, i = .int .i64 k ∧ k ≤ l.length ∧ Col w vs k v wr) (fun _ i _ => l.length - (intOf i).toNat)
  case atStart => exact ⟨0, rfl, Nat.zero_le _, R0⟩
  case round =>
    clear R0
    obtain ⟨k, rfl, hk, R⟩ := hrel
    by_cases hlt : k < l.length
    · obtain ⟨ad, rfl, hcell⟩ := (IntC_iff.1 (HC.out.below R.bel)).2 (by omega)
      have hck := hcell k hlt
      have hwx := wf_node HT.out (List.getElem_mem hlt)
      have hkv : k < vs.length := by rw [HVL.out]; exact hlt
      generalize hx : l[k] = x at hck hwx
      have HX := Lib.hid hx
      have HR := Lib.hid R
      have hsz := R.bel.size
      clear hx R hcell
      have hln := Lib.hid (HL.out wr x HR.out.bel hwx)
      generalize hy : lnz t x = y at hln
      generalize hy2 : (t x).isSome = y2 at hln
      have HY := Lib.hid hy
      clear hy hy2
      by_cases hself : x = self
      · have HVK := Lib.hid (show vs[k] = own by have := HV.out; subst this; exact vals_get_self hkv (by rw [HX.out, hself]))
        have hne : (x == self) = true := by simpa using hself
        clear hself
        go_wp2_with (first
          | (go_at_call 28; refine hln.out.mono ?_; rintro e w2 ⟨rfl, hb2⟩)
          | (go_at_call 61; refine (round_ok y _).mono ?_; rintro e w3 ⟨rfl, hb3⟩; have hsz3 : w.heap.size ≤ w3.heap.size := (by have h2 := hb2.size; have h3 := hb3.size; simp at h3; omega); have R3 := Lib.hid (((HR.out.below hb2).below (alloc_below _ _)).below hb3))
          | (at_builtin; refine wpList_append_own _ rfl _ _ 97 rfl w.heap.size 50 i0 (.int .u64 0) 1 8 Try.underlying97 hi hz0 hz1 hz2 rfl (by decide) _ _ _ rfl (R3.out.own.alloc _) ⟨w3.heap.size, 0, none⟩ 1 1 [.int .u64 own] rfl rfl (cell_one_new _ _ _) (ints_oneCell .u64 [own]) (by unfold maxLen; omega) (by omega) (by simp; omega) ?_; intro v' w4 hown' hgrow _; have HP := Lib.hid (R3.out.push hkv HVK.out hown' hgrow); clear hown' hgrow))
        go_roundw
        case rel => exact ⟨k + 1, by go_num, hlt, HP.out⟩
        case measure => simp [intOf]; omega
      · have HVK := Lib.hid (show vs[k] = y.r by have := HV.out; subst this; rw [vals_get_other hkv (by rw [HX.out]; exact hself), HX.out, HY.out])
        have hne : (x == self) = false := by simpa using hself
        clear hself
        go_wp2_with (first
          | (go_at_call 28; refine hln.out.mono ?_; rintro e w2 ⟨rfl, hb2⟩)
          | (go_at_call 61; refine (round_ok y _).mono ?_; rintro e w3 ⟨rfl, hb3⟩; have hsz3 : w.heap.size ≤ w3.heap.size := (by have h2 := hb2.size; have h3 := hb3.size; simp at h3; omega); have R3 := Lib.hid (((HR.out.below hb2).below (alloc_below _ _)).below hb3))
          | (at_builtin; refine wpList_append_own _ rfl _ _ 97 rfl w.heap.size 50 i0 (.int .u64 0) 1 8 Try.underlying97 hi hz0 hz1 hz2 rfl (by decide) _ _ _ rfl (R3.out.own.alloc _) ⟨w3.heap.size, 0, none⟩ 1 1 [.int .u64 y.r] rfl rfl (cell_one_new _ _ _) (ints_oneCell .u64 [y.r]) (by unfold maxLen; omega) (by omega) (by simp; omega) ?_; intro v' w4 hown' hgrow _; have HP := Lib.hid (R3.out.push hkv HVK.out hown' hgrow); clear hown' hgrow))
        go_roundw
        case rel => exact ⟨k + 1, by go_num, hlt, HP.out⟩
        case measure => simp [intOf]; omega
    · obtain rfl : k = l.length := by omega
      have hown := R.own
      rw [List.take_of_length_le (by rw [HVL.out]; exact Nat.le_refl _)] at hown
      obtain ⟨g, cap, cur, hv, hge, hgb, hcap, hcm, hcs, hrow⟩ := UR.row (l := vs) (uR_of_owns (by rw [HVL.out]; exact hown)) (by intro e; have := HVL.out; rw [e] at this; simp at this; omega)
      rw [HVL.out] at hv
      subst hv
      have HSo := Lib.hid (sort_u wr g cap vs hrow (by rw [HVL.out]; omega) (by rw [HVL.out]; omega))
      rw [HVL.out] at HSo
      have HR := Lib.hid R
      have HG := Lib.hid hge
      have q1 := quo_pos HT.out
      obtain ⟨q, hq⟩ : ∃ q : Nat, q = l.length - (l.length / 2 + 1) := ⟨_, rfl⟩
      have hql : q < l.length := by omega
      have hsub : (l.length : Int) - ((l.length : Int) / 2 + 1) = q := by omega
      have HQ := Lib.hid hq
      have HQ1 := Lib.hid q1
      have hmq := fun w' hb => Lib.hid (mquorum w' A c l (HC.out.below hb) hc (by omega))
      rw [HQ1.out] at hmq
      generalize hqn : (l.length : Int) / 2 + 1 = qn at hsub hmq
      have hqn1 : 1 ≤ qn := by omega
      clear hown R hrow hgb hcs hcm hcap hge hq q1 hqn
      go_wp2_with (first
        | (go_at_call 74; refine HSo.out.mono ?_; rintro e w2 ⟨rfl, r, hr1, hr2, hr3, hg2⟩; have HB2 := Lib.hid (HR.out.bel.grown hg2 HR.out.bel.size (by intro k e; cases e; exact HG.out)); have HP := Lib.hid (And.intro hr1 hr2); have HRW := Lib.hid hr3; clear hr1 hr2 hg2 hr3)
        | (go_at_call 47; refine (hmq _ HB2.out).out.mono ?_; rintro e w3 ⟨rfl, hb3⟩; have hrl : r.length = l.length := HP.out.2.length_eq.trans HVL.out; have hcq : w3.cell? ⟨g, q, none⟩ = some (.int .u64 (r[q]'(by omega))) := ((hb3.cell (p := ⟨g, q, none⟩) (by obtain ⟨cs, hb, _⟩ := HRW.out; exact blk_lt hb)).trans (HRW.out.cell q (by omega)))))
      go_ret
      refine ⟨_, rfl, ⟨r, HP.out.1, HP.out.2, ?_⟩, HB2.out.trans (hb3.mono HB2.out.size)⟩
      rw [HVL.out, ← HQ.out]
      exact List.getElem?_eq_getElem _

/-- What is agreed, and what was answered. -/
theorem reached_no (w : World) (p : Value) (A : Option Addr) (c : Nat) (l : List Int) (hC : IntC w A l) (hc : l.length ≤ c) (hl : l.length ≤ 100) (hs : snd l = false) (self own : Int) (fv : Value) :
    Calls Try.prog 54 #[p, .slice A l.length c, .int .i64 self, .int .u64 own, fv] w fun e w' => e = .returned (.int .u64 0) ∧ Below w.heap.size w w' := by
  have HS := Lib.hid (msound w A c l hC hc hl)
  rw [hs] at HS
  clear hs hC
  go_enter Try.func54, Try.ntmps54
  go_wp2_with (go_at_call 40; refine HS.out.mono ?_; rintro e w1 ⟨rfl, hb1⟩)
  go_ret
  exact ⟨rfl, hb1⟩
theorem agreed_ok (w : World) (p : Value) (t : Tb) (hL : LineAt w p t) (A : Option Addr) (c : Nat) (l : List Int) (hC : IntC w A l) (hc : l.length ≤ c) (hs : snd l = true) (self own : Int) :
    Calls Try.prog 26 #[p, .slice A l.length c, .int .i64 self, .int .u64 own] w (Reach w l (vals t self own (·.m) l)) := by
  have HR := Lib.hid (reached_m w p t hL A c l hC hc hs self own)
  clear hL hC hs
  go_enter Try.func26, Try.ntmps26
  go_wp2_with (go_at_call 54; refine HR.out.mono ?_; rintro e w1 ⟨v, rfl, hq, hb⟩)
  go_ret
  exact ⟨v, rfl, hq, hb⟩
theorem answered_ok (w : World) (p : Value) (t : Tb) (hL : LineAt w p t) (A : Option Addr) (c : Nat) (l : List Int) (hC : IntC w A l) (hc : l.length ≤ c) (hs : snd l = true) (self own : Int) :
    Calls Try.prog 32 #[p, .slice A l.length c, .int .i64 self, .int .u64 own] w (Reach w l (vals t self own (·.r) l)) := by
  have HR := Lib.hid (reached_r w p t hL A c l hC hc hs self own)
  clear hL hC hs
  go_enter Try.func32, Try.ntmps32
  go_wp2_with (go_at_call 54; refine HR.out.mono ?_; rintro e w1 ⟨v, rfl, hq, hb⟩)
  go_ret
  exact ⟨v, rfl, hq, hb⟩
theorem agreed_no (w : World) (p : Value) (A : Option Addr) (c : Nat) (l : List Int) (hC : IntC w A l) (hc : l.length ≤ c) (hl : l.length ≤ 100) (hs : snd l = false) (self own : Int) :
    Calls Try.prog 26 #[p, .slice A l.length c, .int .i64 self, .int .u64 own] w fun e w' => e = .returned (.int .u64 0) ∧ Below w.heap.size w w' := by
  have HR := fun fv => Lib.hid (reached_no w p A c l hC hc hl hs self own fv)
  clear hC hs
  go_enter Try.func26, Try.ntmps26
  go_wp2_with (go_at_call 54; refine (HR _).out.mono ?_; rintro e w1 ⟨rfl, hb⟩)
  go_ret
  exact ⟨rfl, hb⟩
theorem answered_no (w : World) (p : Value) (A : Option Addr) (c : Nat) (l : List Int) (hC : IntC w A l) (hc : l.length ≤ c) (hl : l.length ≤ 100) (hs : snd l = false) (self own : Int) :
    Calls Try.prog 32 #[p, .slice A l.length c, .int .i64 self, .int .u64 own] w fun e w' => e = .returned (.int .u64 0) ∧ Below w.heap.size w w' := by
  have HR := fun fv => Lib.hid (reached_no w p A c l hC hc hl hs self own fv)
  clear hC hs
  go_enter Try.func32, Try.ntmps32
  go_wp2_with (go_at_call 54; refine (HR _).out.mono ?_; rintro e w1 ⟨rfl, hb⟩)
  go_ret
  exact ⟨rfl, hb⟩

end Go.Proofs.Ytibdjmmhdggpfaa
