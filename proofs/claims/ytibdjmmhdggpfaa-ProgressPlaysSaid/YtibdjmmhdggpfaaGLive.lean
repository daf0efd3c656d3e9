/-
  Contracts of member.Reached and of a table's Live.
-/
import Derived.Test.YtibdjmmhdggpfaaGReach
namespace Go.Proofs.Ytibdjmmhdggpfaa
set_option linter.unusedVariables false
set_option linter.unusedSimpArgs false
open Go.RowKit Go.Maps Go.Proofs.YtibdjmmhdggpfaaW.PrintWords Go.Proofs.YtibdjmmhdggpfaaW.PrintMore Go.Proofs.Ytibdjmmhdggpfaa.PPollPlays Go.Proofs.Ytibdjmmhdggpfaa.pure Go.Proofs.Ytibdjmmhdggpfaa.fmap

/-- Is a node alive? -/
def alive (t : Tb) (self n : Int) : Bool := decide (n = self) || (lnz t n).a
/-- Is a quorum? -/
def live (t : Tb) (l : List Int) (self : Int) : Bool := snd l && decide (quo l ≤ ((l.filter (alive t self)).length : Int))

set_option maxRecDepth 100000 in
theorem has_ok (w : World) (p : Value) (t : Tb) (hL : LineAt w p t) (g1 g2 : Nat) (self n : Int) (h1 : w.cell? ⟨g1, 0, none⟩ = some p) (h2 : w.cell? ⟨g2, 0, none⟩ = some (.int .i64 self)) (hg2 : g2 < w.heap.size) (hw : (Lit.int .i64 n).wf = true) :
    Calls Try.prog 67 #[.int .i64 n, .pointer (some ⟨g1, 0, none⟩), .pointer (some ⟨g2, 0, none⟩)] w fun e w' => e = .returned (.bool (alive t self n)) ∧ Below w.heap.size w w' := by
  have HL := Lib.hid (hL w n (Below.refl _ _) hw)
  have hu := Try.underlying66
  have ha : alive t self n = (decide (n = self) || (lnz t n).a) := rfl
  generalize lnz t n = x at HL ha
  generalize (t n).isSome = y at HL
  have HA := Lib.hid ha
  clear hL ha
  by_cases e : n = self
  · have hb : (n == self) = true := by simpa using e
    have HE := Lib.hid e
    clear e
    go_enter Try.func67, Try.ntmps67
    go_wp2_with (go_at_call 28; refine HL.out.mono ?_; rintro e w1 ⟨rfl, hb1⟩; have h3 := (hb1.cell (p := ⟨g2, 0, none⟩) hg2).trans h2; have hg3 : g2 < w1.heap.size := Nat.lt_of_lt_of_le hg2 hb1.size)
    go_ret
    exact ⟨by rw [HA.out, HE.out]; simp, hb1.trans ((alloc_below _ _).mono hb1.size)⟩
  · have hb : (n == self) = false := by simpa using e
    have HE := Lib.hid e
    clear e
    go_enter Try.func67, Try.ntmps67
    go_wp2_with (go_at_call 28; refine HL.out.mono ?_; rintro e w1 ⟨rfl, hb1⟩; have h3 := (hb1.cell (p := ⟨g2, 0, none⟩) hg2).trans h2; have hg3 : g2 < w1.heap.size := Nat.lt_of_lt_of_le hg2 hb1.size)
    go_ret
    exact ⟨by rw [HA.out]; simp [HE.out], hb1.trans ((alloc_below _ _).mono hb1.size)⟩

theorem eql_fn (w : World) (g1 g2 : Nat) : (Go.binOp BinOp.eql 106 (.func (.func 67) #[] #[.pointer (some ⟨g1, 0, none⟩), .pointer (some ⟨g2, 0, none⟩)]) .nilFunc).run Try.prog w = .ok (.bool false) w := by kernel_rfl
/-- Whatever function it is, it tells who is. -/
def HasAt (w : World) (g1 g2 : Nat) (has : Int → Bool) : Prop :=
  ∀ (w' : World) (n : Int), Below w.heap.size w w' → (Lit.int .i64 n).wf = true → Calls Try.prog 67 #[.int .i64 n, .pointer (some ⟨g1, 0, none⟩), .pointer (some ⟨g2, 0, none⟩)] w' fun e w'' => e = .returned (.bool (has n)) ∧ Below w'.heap.size w' w''

set_option maxRecDepth 100000 in
set_option maxHeartbeats 2000000 in
theorem mreached (w : World) (g1 g2 : Nat) (has : Int → Bool) (hH : HasAt w g1 g2 has) (A : Option Addr) (c : Nat) (l : List Int) (hC : IntC w A l) (hc : l.length ≤ c) (hl : l.length ≤ 100) :
    Calls Try.prog 66 #[.slice A l.length c, .func (.func 67) #[] #[.pointer (some ⟨g1, 0, none⟩), .pointer (some ⟨g2, 0, none⟩)]] w fun e w' => e = .returned (.bool (snd l && decide (quo l ≤ ((l.filter has).length : Int)))) ∧ Below w.heap.size w w' := by
  have HS := fun w' hb => Lib.hid (msound w' A c l (hC.below hb) hc hl)
  have q0 := fun w => eql_fn w g1 g2
  rcases hs : snd l with _ | _
  · rw [hs] at HS
    clear hs hC hH
    go_enter Try.func66, Try.ntmps66
    go_wp2_with (go_at_call 40; refine (HS _ (Below.refl _ _)).out.mono ?_; rintro e w1 ⟨rfl, hb1⟩)
    go_ret
    exact ⟨by simp, hb1⟩
  · rw [hs] at HS
    have hl7 := snd_length hs
    have HQ := fun w' hb => Lib.hid (mquorum w' A c l (hC.below hb) hc hl)
    have HQ1 := Lib.hid (quo_pos hs)
    rw [quo_pos hs] at HQ
    obtain ⟨q, hq⟩ : ∃ q : Nat, (q : Int) = (l.length : Int) / 2 + 1 := ⟨l.length / 2 + 1, by omega⟩
    rw [← hq] at HQ
    have HQ2 := Lib.hid hq
    have HT := Lib.hid hs
    have HC := Lib.hid hC
    have HH := Lib.hid hH
    have hq7 : q ≤ 8 := by omega
    clear hs hC hH hq
    go_enter Try.func66, Try.ntmps66
    go_wp2_with (first
      | (go_at_call 40; refine (HS _ (Below.refl _ _)).out.mono ?_; rintro e w1 ⟨rfl, hb1⟩)
      | (go_at_call 47; refine (HQ _ hb1).out.mono ?_; rintro e w2 ⟨rfl, hb2⟩))
    have hB := hb1.trans (hb2.mono hb1.size)
    clear hb1 hb2 HS HQ
    go_loopw [5, 19] (fun v i wr => ∃ k : Nat, i = .int .i64 k ∧ k ≤ l.length ∧ v = .int .i64 ((q : Int) - (((l.take k).filter has).length : Int)) ∧ Below w.heap.size w wr) (fun _ i _ => l.length - (intOf i).toNat)
    case atStart => exact ⟨0, rfl, Nat.zero_le _, by simp, hB⟩
    case round =>
      clear hB
      obtain ⟨k, rfl, hk, rfl, hB⟩ := hrel
      have hfl : ((l.take k).filter has).length ≤ k := Nat.le_trans (List.length_filter_le _ _) (List.length_take_le _ _)
      by_cases hlt : k < l.length
      · obtain ⟨ad, rfl, hcell⟩ := (IntC_iff.1 (HC.out.below hB)).2 (by omega)
        have hck := hcell k hlt
        have hwx := wf_node HT.out (List.getElem_mem hlt)
        have hts : l.take (k + 1) = l.take k ++ [l[k]] := List.take_succ_eq_append_getElem hlt
        have htf : ((l.take (k + 1)).filter has).length = ((l.take k).filter has).length + (if has l[k] then 1 else 0) := by
          rw [hts, List.filter_append, List.length_append]
          by_cases e : has l[k] = true <;> simp [e]
        generalize hx : l[k] = x at hck hwx htf
        have hh := Lib.hid (HH.out wr x hB hwx)
        generalize hcn : ((l.take k).filter has).length = cn at hfl htf
        have HB := Lib.hid hB
        clear hB hcell hts hx
        cases he : has x with
        | true =>
          rw [he] at hh htf
          simp only [if_true] at htf
          have HF := Lib.hid htf
          clear he htf hcn
          go_wp2_with (go_at_call 67; refine hh.out.mono ?_; rintro e w3 ⟨rfl, hb3⟩)
          go_roundw
          case rel => exact ⟨k + 1, by go_num, hlt, by rw [HF.out]; go_num, HB.out.trans (hb3.mono HB.out.size)⟩
          case measure => simp [intOf]; omega
        | false =>
          rw [he] at hh htf
          simp only [Bool.false_eq_true, if_false, Nat.add_zero] at htf
          have HF := Lib.hid htf
          clear he htf hcn
          go_wp2_with (go_at_call 67; refine hh.out.mono ?_; rintro e w3 ⟨rfl, hb3⟩)
          go_roundw
          case rel => exact ⟨k + 1, by go_num, hlt, by rw [HF.out], HB.out.trans (hb3.mono HB.out.size)⟩
          case measure => simp [intOf]; omega
      · have HB := Lib.hid hB
        have htk : l.take k = l := List.take_of_length_le (by omega)
        rw [htk] at hfl ⊢
        clear hB htk
        go_wp2
        go_ret
        refine ⟨?_, HB.out⟩
        rw [HQ1.out, ← HQ2.out]
        simp
        omega

/-- No line is active. -/
def calm (t : Tb) : Tb := fun j => (t j).map (fun x => { x with a := false })
/-- Those that have been come to are calm. -/
def half (t : Tb) (left : Lit → Bool) : Tb := fun j => if left (.int .i64 j) then t j else (t j).map (fun x => { x with a := false })
theorem half_some (t : Tb) (left : Lit → Bool) (j : Int) : (half t left j).isSome = (t j).isSome := by
  unfold half
  split
  · rfl
  · cases t j <;> rfl
theorem tabf_half (bl : Int → Nat) (t : Tb) (left : Lit → Bool) : tabf bl (half t left) = tabf bl t := by
  funext z
  unfold tabf
  split
  · next x => rw [half_some]
  · rfl
theorem half_step (t : Tb) (left : Lit → Bool) (x : Int) (y : Ln) (hl : left (.int .i64 x) = true) (hy : t x = some y) : half t (fun z => left z && !z.sameKey (.int .i64 x)) = tput (half t left) x { y with a := false } := by
  funext j
  by_cases e : j = x
  · subst e
    rw [tput_same]
    unfold half
    simp [lit_eq, hy]
  · rw [tput_other _ _ e]
    unfold half
    simp [lit_ne (Ne.symm e)]
theorem half_start {t : Tb} (bl : Int → Nat) : half t (fun z => (tabf bl t z).isSome) = t := by
  funext j
  unfold half tabf
  cases h : t j <;> simp [h]
theorem half_end (t : Tb) : half t (fun _ => false) = calm t := rfl

theorem Step.grown {bm : Nat} {bl bl' : Int → Nat} {t t' : Tb} {w w1 w2 : World} (h : Step bm bl t bl' t' w w1) {r : Nat} (hg : w1.grownBy w2 (some r)) (hr : w.heap.size ≤ r) : Step bm bl t bl' t' w w2 :=
  ⟨hg.os.trans h.os, hg.tape.trans h.tape, hg.output.trans h.output, Nat.le_trans h.size hg.size, fun k hk hn => (hg.block k (Nat.lt_of_lt_of_le hk h.size) (by intro e; cases e; omega)).trans (h.keep k hk hn), h.new⟩
theorem TAt.grown {w w' : World} {B b bm : Nat} {bl : Int → Nat} {t : Tb} (h : TAt w B b bm bl t) {r : Nat} (hg : w.grownBy w' (some r)) (hr : ¬ (r = b ∨ owns bm bl t r)) : TAt w' B b bm bl t :=
  h.same (fun k hk => hg.block k (by rcases hk with rfl | hk; exact blk_lt h.blk; exact h.own_lt hk) (by intro e; exact hr (by rw [← Option.some.inj e]; exact hk)))
theorem owns_half {bm : Nat} {bl : Int → Nat} {t : Tb} {left : Lit → Bool} {k : Nat} : owns bm bl (half t left) k ↔ owns bm bl t k := by unfold owns; simp only [half_some]
theorem calm_ok {x : Ln} (h : x.Ok) : ({ x with a := false } : Ln).Ok := ⟨h.m0, h.m1, h.mn, h.n1, h.r0, h.r1⟩
set_option maxRecDepth 100000 in
set_option maxHeartbeats 2000000 in
theorem Live_ok (w : World) (B b bm : Nat) (bl : Int → Nat) (t : Tb) (h : TAt w B b bm bl t) (A : Option Addr) (c : Nat) (l : List Int) (hC : IntC w A l) (hc : l.length ≤ c) (hl : l.length ≤ 100) (self : Int) :
    Calls Try.prog 39 #[.pointer (some ⟨b, 0, none⟩), .slice A l.length c, .int .i64 self] w (Moves w B b bm bl t (calm t) (.bool (live t l self))) := by
  have hBW : Below w.heap.size w ((w.alloc (.cells #[.pointer (some ⟨b, 0, none⟩)] 52)).alloc (.cells #[.int .i64 self] 3)) := (alloc_below _ _).trans ((alloc_below _ _).mono (by simp))
  have hH : HasAt ((w.alloc (.cells #[.pointer (some ⟨b, 0, none⟩)] 52)).alloc (.cells #[.int .i64 self] 3)) w.heap.size (w.heap.size + 1) (alive t self) := fun w' n hb hw => by
    have b0 : w'.heap[w.heap.size]? = some (.cells #[.pointer (some ⟨b, 0, none⟩)] 52 (0, 0)) := blk_below (blk_alloc (heap_alloc_new w (.cells #[.pointer (some ⟨b, 0, none⟩)] 52)) _) hb
    have b1 : w'.heap[w.heap.size + 1]? = some (.cells #[.int .i64 self] 3 (0, 0)) := by
      have := blk_below (heap_alloc_new (w.alloc (.cells #[.pointer (some ⟨b, 0, none⟩)] 52)) (.cells #[.int .i64 self] 3)) hb
      simpa using this
    exact has_ok w' _ t ((h.below hBW).below hb).lines _ _ self n (blk_cell b0 0) (blk_cell b1 0) (blk_lt b1) hw
  have HM := Lib.hid (mreached _ _ _ _ hH A c l (hC.below hBW) hc hl)
  have HLV := Lib.hid (show (snd l && decide (quo l ≤ ((l.filter (alive t self)).length : Int))) = live t l self from rfl)
  rw [HLV.out] at HM
  have HT := Lib.hid (h.below hBW)
  have HW := Lib.hid hBW
  have h00 := blk_alloc (heap_alloc_new w (.cells #[.pointer (some ⟨b, 0, none⟩)] 52)) (.cells #[.int .i64 self] 3)
  have HB0 := Lib.hid h00
  clear h hBW hH hC h00
  go_enter Try.func39, Try.ntmps39
  go_wp2_with (first
    | (go_at_call 66; refine HM.out.mono ?_; rintro e w1 ⟨rfl, hb1⟩; have T1 := Lib.hid (HT.out.below hb1); have hbx : w1.cell? ⟨w.heap.size, 0, none⟩ = some (.pointer (some ⟨b, 0, none⟩)) := blk_cell (blk_below HB0.out hb1) 0; have hc0 := T1.out.c0; have hm1 := T1.out.map)
    | (at_range; refine wpList_range _ rfl _ 75 rfl 3 92 law3 Try.underlying75 bm 7 (tabf bl t) rfl hm1 ?_; intro w0 cnt0 hr0 hg0 hs0))
  have T0 := T1.out.below (nob_iff.2 hg0)
  have S0 : Step bm bl t bl t w w0 := Step.of_below ((HW.out.trans (hb1.mono HW.out.size)).trans ((nob_iff.2 hg0).mono (Nat.le_trans HW.out.size hb1.size)))
  clear hg0 hs0 hbx hc0 hm1
  have HN : Hid (¬ (w1.heap.size = b ∨ owns bm bl t w1.heap.size)) := Lib.hid (by
    rintro (e | ho)
    · have := blk_lt T1.out.blk; omega
    · have := T1.out.own_lt ho; omega)
  have HR := Lib.hid (Nat.le_trans HW.out.size hb1.size)
  generalize hr : w1.heap.size = rr at hr0 HN HR ⊢
  clear hr
  go_frame
  go_loopw [20] (fun _ wr => ∃ (left : Lit → Bool) (cnt : Nat), FR wr Try.prog 3 bm rr 7 (tabf bl t) left cnt ∧ TAt wr B b bm bl (half t left) ∧ Step bm bl t bl (half t left) w wr) (fun _ wr => wr.rangeLeft bm rr)
  case atStart => exact ⟨_, cnt0, hr0, by rw [half_start bl]; exact T0, by rw [half_start bl]; exact S0⟩
  case round =>
    clear hr0 T0 S0
    obtain ⟨left, cnt, hrg, hT, hS⟩ := hrel
    have HM0 := Lib.hid hrg.left_eq
    have HTT := Lib.hid hT
    have HSS := Lib.hid hS
    clear hT hS
    go_wp2_with (at_next; refine wpList_next _ rfl _ rfl 3 .i64 law3 Try.underlying3 bm rr 7 _ _ _ rfl hrg ?_ ?_)
    · intro hl0
      have hl : left = fun _ => false := funext hl0
      subst hl
      clear hl0 hrg
      go_wp2
      go_ret
      exact ⟨rfl, bl, HTT.out, HSS.out⟩
    · intro x y w2 cnt2 hwx hlx hfx hr1 hlt1 hg1 hs1 hen
      have hts : (t x).isSome = true ∧ y = .pointer (some ⟨bl x, 0, none⟩) := by
        unfold tabf at hfx
        simp only at hfx
        split at hfx
        · next h => exact ⟨h, (Option.some.inj hfx).symm⟩
        · cases hfx
      obtain ⟨hts, rfl⟩ := hts
      obtain ⟨z, hz⟩ := Option.isSome_iff_exists.1 hts
      have hzz : half t left x = some z := by unfold half; rw [if_pos hlx, hz]
      have hn : ¬ (rr = b ∨ owns bm bl (half t left) rr) := by rw [owns_half]; exact HN.out
      have T2 := HTT.out.grown hg1 hn
      have S2 := HSS.out.grown hg1 (by have := HR.out; omega)
      have hb := T2.line x z hzz
      have d3 := blk_cell hb 3
      have f3 := blk_frozen hb 3
      simp at d3
      have hne : bl x ≠ rr := fun e => hn (.inr (.inr ⟨x, by rw [hzz]; rfl, e⟩))
      have hne2 := T2.line_ne hzz
      have TU := T2.turn hzz (calm_ok (T2.ok.ok x z hzz)) (one_grown w2 (bl x) 3 (.bool false)) (blk_put hb 3 (.bool false) rfl)
      rw [← half_step t left x z hlx hz] at TU
      have HTU := Lib.hid TU
      have HS2 := Lib.hid S2
      have HR3 := Lib.hid (hr1.kept (one_grown w2 (bl x) 3 (.bool false)) (by intro e; exact hne2 (Option.some.inj e)) (by intro e; exact hne (Option.some.inj e)))
      clear hfx hts hz hzz hn T2 S2 hb TU hr1 hg1 hs1 hrg hlx hwx
      go_wp2
      go_roundw
      case rel => exact ⟨_, cnt2, HR3.out, HTU.out.1, HS2.out.trans HTU.out.2⟩
      case measure => rw [HR3.out.left_eq, HM0.out]; exact hlt1
end Go.Proofs.Ytibdjmmhdggpfaa
