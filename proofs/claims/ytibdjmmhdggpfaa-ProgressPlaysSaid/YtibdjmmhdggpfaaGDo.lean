/-
  What came in to the laws of progress: calls.
-/
import Derived.Test.YtibdjmmhdggpfaaArgs
import Derived.Test.YtibdjmmhdggpfaaGOps
import Derived.Test.YtibdjmmhdggpfaaGRLive
import Derived.Test.YtibdjmmhdggpfaaGNew
namespace Go.Proofs.Ytibdjmmhdggpfaa
set_option linter.unusedVariables false
set_option linter.unusedSimpArgs false
open Go.ChangeShapes Go.WideShapes Go.ChangeAt Go.RowKit Go.Maps Go.Proofs.YtibdjmmhdggpfaaW.PrintWords Go.Proofs.YtibdjmmhdggpfaaW.PrintMore Go.Proofs.Ytibdjmmhdggpfaa.PPollPlays Go.Proofs.Ytibdjmmhdggpfaa.pure Go.Proofs.Ytibdjmmhdggpfaa.fmap

/-- A call. -/
structure Cl where
  k : Int
  nd : Int
  n : Int
  l : List Int
theorem cells22 : Try.prog.cellsOf 22 = 1 := by kernel_rfl
theorem cells50 : Try.prog.cellsOf 50 = 1 := by kernel_rfl
theorem cells55 : Try.prog.cellsOf 55 = 4 := by kernel_rfl
/-- A call's cells. -/
abbrev qc (x : Cl) (A : Option Addr) (c : Nat) : List Value := [.int .i64 x.k, .int .i64 x.nd, .int .u64 x.n, .slice A x.l.length c]
/-- A call that came in: its numbers are numbers, its list lies at A. -/
structure ClIn (w : World) (x : Cl) (A : Option Addr) (c : Nat) : Prop where
  C : IntC w A x.l
  h : x.l.length ≤ c
  wnd : (Lit.int .i64 x.nd).wf = true
  wn : (Lit.int .u64 x.n).wf = true
theorem ClIn.below {w w' : World} {x : Cl} {A : Option Addr} {c : Nat} (h : ClIn w x A c) (hb : Below w.heap.size w w') : ClIn w' x A c := ⟨h.C.below hb, h.h, h.wnd, h.wn⟩

section
variable {H : Type} {enc : TypeId × Value → H} {w : World} {base : Nat} {spare : Nat → Bool} {held : Bool} {fuel : Nat}
theorem cl_in {cs : List Value} {y : DataW H × List MemPlace} (hl : cs.length = 4) (ht : DataW.trod enc Try.prog w base spare held fuel 55 cs = some y) :
    ∃ (x : Cl) (A : Option Addr) (c : Nat), cs = qc x A c ∧ ClIn w x A c := by
  obtain ⟨m0, e0, w0⟩ := opens.field_int Try.underlying55 ht 0 _ rfl Try.underlying3 cells3
  obtain ⟨m1, e1, w1⟩ := opens.field_int Try.underlying55 ht 1 _ rfl Try.underlying3 cells3
  obtain ⟨m2, e2, w2⟩ := opens.field_int Try.underlying55 ht 2 _ rfl Try.underlying50 cells50
  obtain ⟨n5, y5, h5⟩ := opens.struct_field Try.underlying55 ht 3 _ rfl
  replace h5 : DataW.trod enc Try.prog w base spare held n5 22 ((cs.drop 3).take (Try.prog.cellsOf 22)) = some y5 := h5
  rw [cells22] at h5
  obtain ⟨v, hv⟩ : ∃ v, cs[3]? = some v := ⟨cs[3]'(by omega), List.getElem?_eq_getElem _⟩
  have hv1 : (cs.drop 3).take 1 = [v] := by
    apply List.ext_getElem?
    intro k
    match k with
    | 0 => rw [List.getElem?_take, if_pos (by omega), List.getElem?_drop]; exact hv
    | k + 1 => rw [List.getElem?_take, if_neg (by omega)]; rfl
  rw [hv1] at h5
  obtain ⟨A, len, cap, rfl⟩ : ∃ A len cap, v = .slice A len cap := by
    rcases Go.Deep.open_slice Try.underlying22 h5 with ⟨e, _⟩ | ⟨a', l', c', _, _, _, _, e, _⟩
    · simp at e
      exact ⟨_, _, _, e⟩
    · simp at e
      exact ⟨_, _, _, e⟩
  obtain ⟨l, rfl, hlc, hU, _⟩ := ints_in h5
  refine ⟨⟨m0, m1, m2, l⟩, A, cap, ?_, hU, hlc, w1, w2⟩
  apply List.ext_getElem?
  intro k
  match k with
  | 0 => exact e0
  | 1 => exact e1
  | 2 => exact e2
  | 3 => exact hv
  | k + 4 => simp [hl]

/-- The calls that came in, where each lies. -/
def IsCls (w : World) (a : Option Addr) (len : Nat) : Prop :=
  len ≤ 9223372036854775807 ∧ ∀ i, i < len → ∃ b o x A c, a = some ⟨b, o, none⟩ ∧ (∀ j v, (qc x A c)[j]? = some v → w.cell? ⟨b, o + i * 4 + j, none⟩ = some v) ∧ ClIn w x A c
theorem isCls {a : Option Addr} {len cap : Nat} {x : DataW H × List MemPlace} (h : DataW.trod enc Try.prog w base spare held fuel 49 [.slice a len cap] = some x) : IsCls w a len := by
  obtain ⟨hlc, hcm, _, hel⟩ := opens.slice_elems Try.underlying49 (by rw [cells55]; omega) h
  refine ⟨by unfold maxLen at hcm; omega, fun i hi => ?_⟩
  obtain ⟨b, o, rfl, cs, n, y, hl, hc, ht⟩ := hel i hi
  rw [cells55] at hc hl
  obtain ⟨x, A, c, rfl, hI⟩ := cl_in hl ht
  refine ⟨b, o, x, A, c, rfl, fun j v hv => ?_, hI⟩
  have hj : j < 4 := by
    have := (List.getElem?_eq_some_iff.1 hv).1
    simpa using this
  obtain ⟨v', hv', hcell⟩ := hc j hj
  rw [hv] at hv'
  cases hv'
  exact hcell
end

/-- The cells of one call. -/
structure ClAt (w : World) (b o : Nat) (x : Cl) (A : Option Addr) (c : Nat) : Prop where
  cell : ∀ j v, (qc x A c)[j]? = some v → w.cell? ⟨b, o + j, none⟩ = some v
  lt : b < w.heap.size
theorem ClAt.below {w w' : World} {b o : Nat} {x : Cl} {A : Option Addr} {c : Nat} (h : ClAt w b o x A c) (hb : Below w.heap.size w w') : ClAt w' b o x A c :=
  ⟨fun j v hv => (hb.cell (p := ⟨b, o + j, none⟩) h.lt).trans (h.cell j v hv), Nat.lt_of_lt_of_le h.lt hb.size⟩
/-- Calls that are looked at. -/
def Cls (w : World) (a : Option Addr) (len : Nat) : Prop := ∀ i, i < len → ∃ b o x A c, a = some ⟨b, o, none⟩ ∧ ClAt w b (o + i * 4) x A c ∧ ClIn w x A c ∧ x.l.length ≤ 40

/-- What Light tells. -/
def LightG (w : World) (len : Nat) (a : Option Addr) (e : Ending) (w' : World) : Prop :=
  ∃ b : Bool, e = .returned (.bool b) ∧ Below w.heap.size w w' ∧ (b = true → len ≤ 200 ∧ Cls w a len)

set_option maxRecDepth 100000 in
set_option maxHeartbeats 800000 in
theorem glight_ok (w : World) (a : Option Addr) (len cap : Nat) (h : IsCls w a len) :
    Calls Try.prog 22 #[.slice a len cap] w (LightG w len a) := by
  have hmx := h.1
  have HI := Lib.hid h
  have hu := Try.underlying55
  clear h
  go_enter Try.func22, Try.ntmps22
  go_wp2
  go_loopw [7] (fun i wr => ∃ k : Nat, i = .int .i64 k ∧ k ≤ len ∧ Below w.heap.size w wr ∧ Cls w a k) (fun i _ => len - (intOf i).toNat)
  case atStart => exact ⟨0, rfl, Nat.zero_le _, Below.refl _ _, fun i hi => absurd hi (Nat.not_lt_zero _)⟩
  case round =>
    obtain ⟨k, rfl, hk, hB, hall⟩ := hrel
    have HA := Lib.hid hall
    clear hall
    by_cases hlt : k < len
    · obtain ⟨b, o, x, A, c, rfl, hcell, hU⟩ := HI.out.2 k hlt
      have hO : ClAt w b (o + k * 4) x A c := ⟨hcell, World.block_lt_of_cell? _ _ (hcell 0 _ rfl)⟩
      have HO := Lib.hid (hO.below hB)
      have d0 : wr.cell? ⟨b, o + k * 4, none⟩ = some (.int .i64 x.k) := HO.out.cell 0 _ rfl
      have d1 := HO.out.cell 1 _ rfl
      have d2 := HO.out.cell 2 _ rfl
      have d3 := HO.out.cell 3 _ rfl
      have HO0 := Lib.hid hO
      have HU := Lib.hid hU
      have HB := Lib.hid hB
      clear hO hcell hU hB
      by_cases h2 : x.l.length ≤ 40
      · have h2' : (x.l.length : Int) ≤ 40 := by omega
        go_wp2
        go_roundw
        case rel =>
          refine ⟨k + 1, by go_num, hlt, HB.out.trans ((alloc_below wr _).mono HB.out.size), fun i hi => ?_⟩
          by_cases e : i < k
          · exact HA.out i e
          · obtain rfl : i = k := by omega
            exact ⟨b, o, x, A, c, rfl, HO0.out, HU.out, h2⟩
        case measure => simp [intOf]; omega
      · have h2' : 40 < (x.l.length : Int) := by omega
        go_wp2
        go_ret
        exact ⟨false, rfl, HB.out.trans ((alloc_below wr _).mono HB.out.size), fun e => by cases e⟩
    · have e : k = len := by omega
      subst e
      have HB := Lib.hid hB
      clear hB
      go_wp2
      go_ret
      exact ⟨_, rfl, HB.out, fun e => ⟨by simp at e; omega, HA.out⟩⟩
end Go.Proofs.Ytibdjmmhdggpfaa

/-
  The laws' do: one call, on a table in memory and on the document's.
-/
namespace Go.Proofs.Ytibdjmmhdggpfaa
set_option linter.unusedVariables false
set_option linter.unusedSimpArgs false
open Go.RowKit Go.Maps Go.Proofs.YtibdjmmhdggpfaaW.PrintWords Go.Proofs.YtibdjmmhdggpfaaW.PrintMore Go.Proofs.Ytibdjmmhdggpfaa.PPollPlays Go.Proofs.Ytibdjmmhdggpfaa.pure Go.Proofs.Ytibdjmmhdggpfaa.fmap

def sett (t : Tb) (l : List Int) (last : Int) : Tb := if last ≤ IX then news t l last else t
/-- The table behind a call. -/
def stepT (t : Tb) (x : Cl) : Tb := if x.k = 1 then refused t x.nd x.n else if x.k = 2 then heard t x.nd x.n else if x.k = 3 then sett t x.l x.n else if x.k = 4 then calm t else took t x.nd x.n
/-- What a call tells. -/
def stepB (t : Tb) (x : Cl) : Bool := if x.k = 1 then refb t x.nd x.n else if x.k = 2 then (t x.nd).isSome else if x.k = 3 then decide (x.n ≤ IX) else if x.k = 4 then live t x.l x.nd else tookb t x.nd x.n
theorem Set_ok (w : World) (B b bm : Nat) (bl : Int → Nat) (t : Tb) (h : TAt w B b bm bl t) (A : Option Addr) (c : Nat) (l : List Int) (hC : IntC w A l) (hc : l.length ≤ c) (hl : l.length ≤ 100) (last : Int) (hw : (Lit.int .u64 last).wf = true) :
    Calls Try.prog 38 #[.pointer (some ⟨b, 0, none⟩), .slice A l.length c, .int .u64 last] w (Moves w B b bm bl t (sett t l last) (.bool (decide (last ≤ IX)))) := by
  unfold sett
  by_cases hx : last ≤ IX
  · rw [if_pos hx, decide_eq_true hx]
    exact set_near w B b bm bl t h A c l hC hc hl last hw hx
  · rw [if_neg hx, decide_eq_false hx]
    exact set_far w B b bm bl t h A c l.length last hx
theorem rset_ok (w : World) (cs : Array Value) (t : Tb) (h : RT cs t) (A : Option Addr) (c : Nat) (l : List Int) (hC : IntC w A l) (hc : l.length ≤ c) (hl : l.length ≤ 100) (last : Int) (hw : (Lit.int .u64 last).wf = true) :
    Calls Try.prog 29 #[.agg cs, .slice A l.length c, .int .u64 last] w (TabBool w (sett t l last) (decide (last ≤ IX))) := by
  unfold sett
  by_cases hx : last ≤ IX
  · rw [if_pos hx, decide_eq_true hx]
    exact rset_near w cs t h A c l hC hc hl last hw hx
  · rw [if_neg hx, decide_eq_false hx]
    exact rset_far w cs t h A c l.length last hx

theorem TAt.setRow {w : World} {B b bm : Nat} {bl : Int → Nat} {t : Tb} (h : TAt w B b bm bl t) {g : Nat} (hb : g ≠ b) (hg : ¬ owns bm bl t g) (cs : Array Value) : TAt (w.setRow g cs) B b bm bl t :=
  h.same (fun k hk => setRow_other _ _ _ _ (by rintro rfl; exact hk.elim (fun e => hb e) hg))
theorem Step.setRow {bm : Nat} {bl bl' : Int → Nat} {t t' : Tb} {w w1 : World} (h : Step bm bl t bl' t' w w1) {g : Nat} (hg : w.heap.size ≤ g) (cs : Array Value) : Step bm bl t bl' t' w (w1.setRow g cs) :=
  ⟨h.os, h.tape, h.output, by simp; exact h.size, fun k hk hn => (setRow_other _ _ _ _ (by omega)).trans (h.keep k hk hn), h.new⟩
theorem Step.below {bm : Nat} {bl bl' : Int → Nat} {t t' : Tb} {w w1 w2 : World} (h : Step bm bl t bl' t' w w1) (hb : Below w1.heap.size w1 w2) : Step bm bl t bl' t' w w2 :=
  h.trans (Step.of_below hb)
/-- What do leaves. -/
def Done (w : World) (B b bm : Nat) (bl : Int → Nat) (t t' : Tb) (x : Cl) (e : Ending) (w' : World) : Prop :=
  ∃ cs bl', e = .returned (.tuple #[.agg cs, .bool (stepB t x == stepB t' x)]) ∧ RT cs (stepT t' x) ∧ TAt w' B b bm bl' (stepT t x) ∧ Step bm bl t bl' (stepT t x) w w'

/-- The three blocks that do begins with. -/
structure Do3 (w : World) (cs : Array Value) (x : Cl) (A : Option Addr) (c : Nat) (W : World) : Prop where
  a : W.heap[w.heap.size]? = some (.cells cs 60 (0, 0))
  o : W.heap[w.heap.size + 1]? = some (.cells (qc x A c).toArray 55 (0, 0))
  z : W.heap[w.heap.size + 2]? = some (.cells Z60 60 (0, 0))
theorem Do3.below {w : World} {cs : Array Value} {x : Cl} {A : Option Addr} {c : Nat} {W w' : World} (h : Do3 w cs x A c W) (hb : Below W.heap.size W w') : Do3 w cs x A c w' := ⟨blk_below h.a hb, blk_below h.o hb, blk_below h.z hb⟩
theorem do3 (w : World) (cs : Array Value) (x : Cl) (A : Option Addr) (c : Nat) : Do3 w cs x A c (((w.alloc (.cells cs 60)).alloc (.cells (qc x A c).toArray 55)).alloc (.cells Z60 60)) ∧ Below w.heap.size w (((w.alloc (.cells cs 60)).alloc (.cells (qc x A c).toArray 55)).alloc (.cells Z60 60)) := by
  refine ⟨⟨blk_alloc (blk_alloc (heap_alloc_new w _) _) _, ?_, ?_⟩, ((alloc_below _ _).trans ((alloc_below _ _).mono (by simp))).trans ((alloc_below _ _).mono (by simp; omega))⟩
  · have := blk_alloc (heap_alloc_new (w.alloc (.cells cs 60)) (.cells (qc x A c).toArray 55)) (.cells Z60 60)
    simpa using this
  · have := heap_alloc_new ((w.alloc (.cells cs 60)).alloc (.cells (qc x A c).toArray 55)) (.cells Z60 60)
    simpa using this
/-- Behind the table's own call. -/
structure Mid (w : World) (B b bm : Nat) (bl : Int → Nat) (t t1 : Tb) (cs : Array Value) (x : Cl) (A : Option Addr) (c : Nat) (bl' : Int → Nat) (w1 : World) : Prop where
  d : Do3 w cs x A c w1
  at_ : TAt w1 B b bm bl' t1
  st : Step bm bl t bl' t1 w w1
  lt : w.heap.size + 2 < w1.heap.size
  fr : ∀ g, w.heap.size ≤ g → g ≤ w.heap.size + 2 → g ≠ b ∧ ¬ owns bm bl' t1 g
theorem mid {w W w1 : World} {B b bm : Nat} {bl bl' : Int → Nat} {t t1 : Tb} {cs : Array Value} {x : Cl} {A : Option Addr} {c : Nat} (h : TAt w B b bm bl t) (hd : Do3 w cs x A c W) (hb : Below w.heap.size w W) (h1 : TAt w1 B b bm bl' t1) (hs : Step bm bl t bl' t1 W w1) : Mid w B b bm bl t t1 cs x A c bl' w1 := by
  have nb : ∀ g, w.heap.size ≤ g → ¬ owns bm bl t g := fun g hg ho => by have := h.own_lt ho; omega
  have lt2 := blk_lt hd.z
  refine ⟨⟨hs.blk hd.a (nb _ (by omega)), hs.blk hd.o (nb _ (by omega)), hs.blk hd.z (nb _ (by omega))⟩, h1, (Step.of_below hb).trans hs, by have := hs.size; omega, fun g h1 h2 => ⟨?_, hs.free (by omega) (nb g h1)⟩⟩
  have := blk_lt h.blk
  omega
theorem Mid.below {w : World} {B b bm : Nat} {bl : Int → Nat} {t t1 : Tb} {cs : Array Value} {x : Cl} {A : Option Addr} {c : Nat} {bl' : Int → Nat} {w1 w2 : World} (h : Mid w B b bm bl t t1 cs x A c bl' w1) (hb : Below w1.heap.size w1 w2) : Mid w B b bm bl t t1 cs x A c bl' w2 :=
  ⟨h.d.below hb, h.at_.below hb, h.st.below hb, by have := hb.size; have := h.lt; omega, h.fr⟩
theorem Mid.fin {w : World} {B b bm : Nat} {bl : Int → Nat} {t t1 t' : Tb} {cs cs2 : Array Value} {x : Cl} {A : Option Addr} {c : Nat} {bl' : Int → Nat} {w2 : World} (h : Mid w B b bm bl t t1 cs x A c bl' w2) (h1 : t1 = stepT t x) (hr : RT cs2 (stepT t' x)) {bv : Bool} (hb : bv = (stepB t x == stepB t' x)) :
    Done w B b bm bl t t' x (.returned (.tuple #[.agg cs2, .bool bv])) ((w2.setRow w.heap.size cs2).setRow (w.heap.size + 2) cs2) := by
  subst h1 hb
  have f1 := h.fr w.heap.size (by omega) (by omega)
  have f2 := h.fr (w.heap.size + 2) (by omega) (by omega)
  exact ⟨cs2, bl', rfl, hr, (h.at_.setRow f1.1 f1.2 cs2).setRow f2.1 f2.2 cs2, (h.st.setRow (by omega) cs2).setRow (by omega) cs2⟩

set_option maxRecDepth 100000 in
set_option maxHeartbeats 2000000 in
theorem do_1 (w : World) (B b bm : Nat) (bl : Int → Nat) (t t' : Tb) (h : TAt w B b bm bl t) (cs : Array Value) (hR : RT cs t') (hO : TOk t') (x : Cl) (A : Option Addr) (c : Nat) (hB : ∀ w1, Below B w w1 → ClIn w1 x A c) (hl : x.l.length ≤ 40) (hk : x.k = 1) :
    Calls Try.prog 25 #[.pointer (some ⟨b, 0, none⟩), .agg cs, .agg (qc x A c).toArray] w (Done w B b bm bl t t' x) := by
  have HR := Lib.hid hR
  have HO := Lib.hid hO
  have hz := zero60
  have hu := Try.underlying55
  have H3 := Lib.hid (do3 w cs x A c)
  have HTW := Lib.hid h
  have hBl : B ≤ w.heap.size := by have := blk_lt h.blk; have := h.lo; omega
  have k1 : (x.k == 1) = true := by rw [hk]; decide
  have E1 := Lib.hid (show stepT t x = refused t x.nd x.n from by unfold stepT; rw [if_pos hk])
  have E2 := Lib.hid (show stepT t' x = refused t' x.nd x.n from by unfold stepT; rw [if_pos hk])
  have E3 := Lib.hid (show stepB t x = refb t x.nd x.n from by unfold stepB; rw [if_pos hk])
  have E4 := Lib.hid (show stepB t' x = refb t' x.nd x.n from by unfold stepB; rw [if_pos hk])
  have HBI := Lib.hid hB
  clear hR hO h hk hB
  go_enter Try.func25, Try.ntmps25
  go_upto_region 1 with (fail)
  generalize hW : ((w.alloc (.cells cs 60)).alloc (.cells (qc x A c).toArray 55)).alloc (.cells Z60 60) = W1 at H3
  clear hW
  have HT := Lib.hid (HTW.out.below H3.out.2)
  have HI := Lib.hid (HBI.out W1 (H3.out.2.mono hBl))
  have c0 := (blk_cell H3.out.1.o 0).trans rfl
  have c1 := (blk_cell H3.out.1.o 1).trans rfl
  have c2 := (blk_cell H3.out.1.o 2).trans rfl
  have c3 := (blk_cell H3.out.1.o 3).trans rfl
  have hi := info60 HR.out.size
  go_wp2_with (first
    | (go_at_call 36; refine (Refused_ok W1 B b bm bl t HT.out x.nd x.n HI.out.wnd HI.out.wn).mono ?_; rintro e w2 ⟨rfl, bl', hT2, hS2⟩; have HM := Lib.hid (mid HTW.out H3.out.1 H3.out.2 hT2 hS2); have HI2 := Lib.hid (HBI.out w2 ((hS2.bel HT.out (H3.out.2.mono hBl)))); clear c0 c1 c2 c3 hT2 hS2; have d1 := (blk_cell HM.out.d.o 1).trans rfl; have d2 := (blk_cell HM.out.d.o 2).trans rfl; have d3 := (blk_cell HM.out.d.o 3).trans rfl)
    | (go_at_call 50; refine ((rrefused_ok w2 cs t' HR.out x.nd x.n HO.out HI.out.wn)).mono ?_; rintro e w3 ⟨cs2, rfl, hR2, hb3⟩; have HM3 := Lib.hid (HM.out.below hb3); have HR2 := Lib.hid hR2; have hi2 := info60 hR2.size; clear d1 d2 d3 hR2 hb3)
    | ((with_reducible refine wpList_load_row rfl 60 _ rfl w.heap.size ?_ 60 cs (0, 0) _ HM.out.d.a Try.underlying60 ?_ hi ?_); rfl; rfl)
    | ((with_reducible refine wpList_store_row rfl 60 _ _ rfl w.heap.size cs2 ?_ ?_ 60 cs HM3.out.d.a hi2 ?_ HR2.out.one ?_); rfl; rfl; (rw [HR.out.size, HR2.out.size]))
    | ((with_reducible refine wpList_load_row rfl 60 _ rfl w.heap.size ?_ 60 cs2 (0, 0) _ (setRow_heap _ _ _ _ _ _ HM3.out.d.a) Try.underlying60 ?_ hi2 ?_); rfl; rfl)
    | ((with_reducible refine wpList_store_row rfl 60 _ _ rfl (w.heap.size + 2) cs2 ?_ ?_ 60 Z60 ((setRow_other _ _ _ _ (by omega)).trans HM3.out.d.z) hi2 ?_ HR2.out.one ?_); rfl; rfl; (rw [Z60_size, HR2.out.size])))
  exact ret_row Try.results25 rfl rfl (setRow_heap _ _ _ _ _ _ ((setRow_other _ _ _ _ (by omega)).trans HM3.out.d.z)) HR2.out.size rfl (HM3.out.fin E1.out.symm (by rw [E2.out]; exact HR2.out) (by rw [E3.out, E4.out]))


set_option maxRecDepth 100000 in
set_option maxHeartbeats 2000000 in
theorem do_2 (w : World) (B b bm : Nat) (bl : Int → Nat) (t t' : Tb) (h : TAt w B b bm bl t) (cs : Array Value) (hR : RT cs t') (hO : TOk t') (x : Cl) (A : Option Addr) (c : Nat) (hB : ∀ w1, Below B w w1 → ClIn w1 x A c) (hl : x.l.length ≤ 40) (hk : x.k = 2) :
    Calls Try.prog 25 #[.pointer (some ⟨b, 0, none⟩), .agg cs, .agg (qc x A c).toArray] w (Done w B b bm bl t t' x) := by
  have HR := Lib.hid hR
  have HO := Lib.hid hO
  have hz := zero60
  have hu := Try.underlying55
  have H3 := Lib.hid (do3 w cs x A c)
  have HTW := Lib.hid h
  have hBl : B ≤ w.heap.size := by have := blk_lt h.blk; have := h.lo; omega
  have k1 : (x.k == 1) = false := by rw [hk]; decide
  have k2 : (x.k == 2) = true := by rw [hk]; decide
  have E1 := Lib.hid (show stepT t x = heard t x.nd x.n from by unfold stepT; rw [if_neg (by rw [hk]; decide)]; rw [if_pos hk])
  have E2 := Lib.hid (show stepT t' x = heard t' x.nd x.n from by unfold stepT; rw [if_neg (by rw [hk]; decide)]; rw [if_pos hk])
  have E3 := Lib.hid (show stepB t x = (t x.nd).isSome from by unfold stepB; rw [if_neg (by rw [hk]; decide)]; rw [if_pos hk])
  have E4 := Lib.hid (show stepB t' x = (t' x.nd).isSome from by unfold stepB; rw [if_neg (by rw [hk]; decide)]; rw [if_pos hk])
  have HBI := Lib.hid hB
  clear hR hO h hk hB
  go_enter Try.func25, Try.ntmps25
  go_upto_region 1 with (fail)
  generalize hW : ((w.alloc (.cells cs 60)).alloc (.cells (qc x A c).toArray 55)).alloc (.cells Z60 60) = W1 at H3
  clear hW
  have HT := Lib.hid (HTW.out.below H3.out.2)
  have HI := Lib.hid (HBI.out W1 (H3.out.2.mono hBl))
  have c0 := (blk_cell H3.out.1.o 0).trans rfl
  have c1 := (blk_cell H3.out.1.o 1).trans rfl
  have c2 := (blk_cell H3.out.1.o 2).trans rfl
  have c3 := (blk_cell H3.out.1.o 3).trans rfl
  have hi := info60 HR.out.size
  go_wp2_with (first
    | (go_at_call 37; refine (Heard_ok W1 B b bm bl t HT.out x.nd x.n HI.out.wnd HI.out.wn).mono ?_; rintro e w2 ⟨rfl, bl', hT2, hS2⟩; have HM := Lib.hid (mid HTW.out H3.out.1 H3.out.2 hT2 hS2); have HI2 := Lib.hid (HBI.out w2 ((hS2.bel HT.out (H3.out.2.mono hBl)))); clear c0 c1 c2 c3 hT2 hS2; have d1 := (blk_cell HM.out.d.o 1).trans rfl; have d2 := (blk_cell HM.out.d.o 2).trans rfl; have d3 := (blk_cell HM.out.d.o 3).trans rfl)
    | (go_at_call 51; refine ((rheard_ok w2 cs t' HR.out x.nd x.n)).mono ?_; rintro e w3 ⟨cs2, rfl, hR2, hb3⟩; have HM3 := Lib.hid (HM.out.below hb3); have HR2 := Lib.hid hR2; have hi2 := info60 hR2.size; clear d1 d2 d3 hR2 hb3)
    | ((with_reducible refine wpList_load_row rfl 60 _ rfl w.heap.size ?_ 60 cs (0, 0) _ HM.out.d.a Try.underlying60 ?_ hi ?_); rfl; rfl)
    | ((with_reducible refine wpList_store_row rfl 60 _ _ rfl w.heap.size cs2 ?_ ?_ 60 cs HM3.out.d.a hi2 ?_ HR2.out.one ?_); rfl; rfl; (rw [HR.out.size, HR2.out.size]))
    | ((with_reducible refine wpList_load_row rfl 60 _ rfl w.heap.size ?_ 60 cs2 (0, 0) _ (setRow_heap _ _ _ _ _ _ HM3.out.d.a) Try.underlying60 ?_ hi2 ?_); rfl; rfl)
    | ((with_reducible refine wpList_store_row rfl 60 _ _ rfl (w.heap.size + 2) cs2 ?_ ?_ 60 Z60 ((setRow_other _ _ _ _ (by omega)).trans HM3.out.d.z) hi2 ?_ HR2.out.one ?_); rfl; rfl; (rw [Z60_size, HR2.out.size])))
  exact ret_row Try.results25 rfl rfl (setRow_heap _ _ _ _ _ _ ((setRow_other _ _ _ _ (by omega)).trans HM3.out.d.z)) HR2.out.size rfl (HM3.out.fin E1.out.symm (by rw [E2.out]; exact HR2.out) (by rw [E3.out, E4.out]))


set_option maxRecDepth 100000 in
set_option maxHeartbeats 2000000 in
theorem do_3 (w : World) (B b bm : Nat) (bl : Int → Nat) (t t' : Tb) (h : TAt w B b bm bl t) (cs : Array Value) (hR : RT cs t') (hO : TOk t') (x : Cl) (A : Option Addr) (c : Nat) (hB : ∀ w1, Below B w w1 → ClIn w1 x A c) (hl : x.l.length ≤ 40) (hk : x.k = 3) :
    Calls Try.prog 25 #[.pointer (some ⟨b, 0, none⟩), .agg cs, .agg (qc x A c).toArray] w (Done w B b bm bl t t' x) := by
  have HR := Lib.hid hR
  have HO := Lib.hid hO
  have hz := zero60
  have hu := Try.underlying55
  have H3 := Lib.hid (do3 w cs x A c)
  have HTW := Lib.hid h
  have hBl : B ≤ w.heap.size := by have := blk_lt h.blk; have := h.lo; omega
  have k1 : (x.k == 1) = false := by rw [hk]; decide
  have k2 : (x.k == 2) = false := by rw [hk]; decide
  have k3 : (x.k == 3) = true := by rw [hk]; decide
  have E1 := Lib.hid (show stepT t x = sett t x.l x.n from by unfold stepT; rw [if_neg (by rw [hk]; decide)]; rw [if_neg (by rw [hk]; decide)]; rw [if_pos hk])
  have E2 := Lib.hid (show stepT t' x = sett t' x.l x.n from by unfold stepT; rw [if_neg (by rw [hk]; decide)]; rw [if_neg (by rw [hk]; decide)]; rw [if_pos hk])
  have E3 := Lib.hid (show stepB t x = decide (x.n ≤ IX) from by unfold stepB; rw [if_neg (by rw [hk]; decide)]; rw [if_neg (by rw [hk]; decide)]; rw [if_pos hk])
  have E4 := Lib.hid (show stepB t' x = decide (x.n ≤ IX) from by unfold stepB; rw [if_neg (by rw [hk]; decide)]; rw [if_neg (by rw [hk]; decide)]; rw [if_pos hk])
  have HBI := Lib.hid hB
  clear hR hO h hk hB
  go_enter Try.func25, Try.ntmps25
  go_upto_region 1 with (fail)
  generalize hW : ((w.alloc (.cells cs 60)).alloc (.cells (qc x A c).toArray 55)).alloc (.cells Z60 60) = W1 at H3
  clear hW
  have HT := Lib.hid (HTW.out.below H3.out.2)
  have HI := Lib.hid (HBI.out W1 (H3.out.2.mono hBl))
  have c0 := (blk_cell H3.out.1.o 0).trans rfl
  have c1 := (blk_cell H3.out.1.o 1).trans rfl
  have c2 := (blk_cell H3.out.1.o 2).trans rfl
  have c3 := (blk_cell H3.out.1.o 3).trans rfl
  have hi := info60 HR.out.size
  go_wp2_with (first
    | (go_at_call 38; refine (Set_ok W1 B b bm bl t HT.out A c x.l HI.out.C HI.out.h (by omega) x.n HI.out.wn).mono ?_; rintro e w2 ⟨rfl, bl', hT2, hS2⟩; have HM := Lib.hid (mid HTW.out H3.out.1 H3.out.2 hT2 hS2); have HI2 := Lib.hid (HBI.out w2 ((hS2.bel HT.out (H3.out.2.mono hBl)))); clear c0 c1 c2 c3 hT2 hS2; have d1 := (blk_cell HM.out.d.o 1).trans rfl; have d2 := (blk_cell HM.out.d.o 2).trans rfl; have d3 := (blk_cell HM.out.d.o 3).trans rfl)
    | (go_at_call 29; refine ((rset_ok w2 cs t' HR.out A c x.l (HI2.out.C) HI.out.h (by omega) x.n HI.out.wn)).mono ?_; rintro e w3 ⟨cs2, rfl, hR2, hb3⟩; have HM3 := Lib.hid (HM.out.below hb3); have HR2 := Lib.hid hR2; have hi2 := info60 hR2.size; clear d1 d2 d3 hR2 hb3)
    | ((with_reducible refine wpList_load_row rfl 60 _ rfl w.heap.size ?_ 60 cs (0, 0) _ HM.out.d.a Try.underlying60 ?_ hi ?_); rfl; rfl)
    | ((with_reducible refine wpList_store_row rfl 60 _ _ rfl w.heap.size cs2 ?_ ?_ 60 cs HM3.out.d.a hi2 ?_ HR2.out.one ?_); rfl; rfl; (rw [HR.out.size, HR2.out.size]))
    | ((with_reducible refine wpList_load_row rfl 60 _ rfl w.heap.size ?_ 60 cs2 (0, 0) _ (setRow_heap _ _ _ _ _ _ HM3.out.d.a) Try.underlying60 ?_ hi2 ?_); rfl; rfl)
    | ((with_reducible refine wpList_store_row rfl 60 _ _ rfl (w.heap.size + 2) cs2 ?_ ?_ 60 Z60 ((setRow_other _ _ _ _ (by omega)).trans HM3.out.d.z) hi2 ?_ HR2.out.one ?_); rfl; rfl; (rw [Z60_size, HR2.out.size])))
  exact ret_row Try.results25 rfl rfl (setRow_heap _ _ _ _ _ _ ((setRow_other _ _ _ _ (by omega)).trans HM3.out.d.z)) HR2.out.size rfl (HM3.out.fin E1.out.symm (by rw [E2.out]; exact HR2.out) (by rw [E3.out, E4.out]; simp))


set_option maxRecDepth 100000 in
set_option maxHeartbeats 2000000 in
theorem do_4 (w : World) (B b bm : Nat) (bl : Int → Nat) (t t' : Tb) (h : TAt w B b bm bl t) (cs : Array Value) (hR : RT cs t') (hO : TOk t') (x : Cl) (A : Option Addr) (c : Nat) (hB : ∀ w1, Below B w w1 → ClIn w1 x A c) (hl : x.l.length ≤ 40) (hk : x.k = 4) :
    Calls Try.prog 25 #[.pointer (some ⟨b, 0, none⟩), .agg cs, .agg (qc x A c).toArray] w (Done w B b bm bl t t' x) := by
  have HR := Lib.hid hR
  have HO := Lib.hid hO
  have hz := zero60
  have hu := Try.underlying55
  have H3 := Lib.hid (do3 w cs x A c)
  have HTW := Lib.hid h
  have hBl : B ≤ w.heap.size := by have := blk_lt h.blk; have := h.lo; omega
  have k1 : (x.k == 1) = false := by rw [hk]; decide
  have k2 : (x.k == 2) = false := by rw [hk]; decide
  have k3 : (x.k == 3) = false := by rw [hk]; decide
  have k4 : (x.k == 4) = true := by rw [hk]; decide
  have E1 := Lib.hid (show stepT t x = calm t from by unfold stepT; rw [if_neg (by rw [hk]; decide)]; rw [if_neg (by rw [hk]; decide)]; rw [if_neg (by rw [hk]; decide)]; rw [if_pos hk])
  have E2 := Lib.hid (show stepT t' x = calm t' from by unfold stepT; rw [if_neg (by rw [hk]; decide)]; rw [if_neg (by rw [hk]; decide)]; rw [if_neg (by rw [hk]; decide)]; rw [if_pos hk])
  have E3 := Lib.hid (show stepB t x = live t x.l x.nd from by unfold stepB; rw [if_neg (by rw [hk]; decide)]; rw [if_neg (by rw [hk]; decide)]; rw [if_neg (by rw [hk]; decide)]; rw [if_pos hk])
  have E4 := Lib.hid (show stepB t' x = live t' x.l x.nd from by unfold stepB; rw [if_neg (by rw [hk]; decide)]; rw [if_neg (by rw [hk]; decide)]; rw [if_neg (by rw [hk]; decide)]; rw [if_pos hk])
  have HBI := Lib.hid hB
  clear hR hO h hk hB
  go_enter Try.func25, Try.ntmps25
  go_upto_region 1 with (fail)
  generalize hW : ((w.alloc (.cells cs 60)).alloc (.cells (qc x A c).toArray 55)).alloc (.cells Z60 60) = W1 at H3
  clear hW
  have HT := Lib.hid (HTW.out.below H3.out.2)
  have HI := Lib.hid (HBI.out W1 (H3.out.2.mono hBl))
  have c0 := (blk_cell H3.out.1.o 0).trans rfl
  have c1 := (blk_cell H3.out.1.o 1).trans rfl
  have c2 := (blk_cell H3.out.1.o 2).trans rfl
  have c3 := (blk_cell H3.out.1.o 3).trans rfl
  have hi := info60 HR.out.size
  go_wp2_with (first
    | (go_at_call 39; refine (Live_ok W1 B b bm bl t HT.out A c x.l HI.out.C HI.out.h (by omega) x.nd).mono ?_; rintro e w2 ⟨rfl, bl', hT2, hS2⟩; have HM := Lib.hid (mid HTW.out H3.out.1 H3.out.2 hT2 hS2); have HI2 := Lib.hid (HBI.out w2 ((hS2.bel HT.out (H3.out.2.mono hBl)))); clear c0 c1 c2 c3 hT2 hS2; have d1 := (blk_cell HM.out.d.o 1).trans rfl; have d2 := (blk_cell HM.out.d.o 2).trans rfl; have d3 := (blk_cell HM.out.d.o 3).trans rfl)
    | (go_at_call 52; refine ((rlive_ok w2 cs t' HR.out A c x.l (HI2.out.C) HI.out.h (by omega) x.nd)).mono ?_; rintro e w3 ⟨cs2, rfl, hR2, hb3⟩; have HM3 := Lib.hid (HM.out.below hb3); have HR2 := Lib.hid hR2; have hi2 := info60 hR2.size; clear d1 d2 d3 hR2 hb3)
    | ((with_reducible refine wpList_load_row rfl 60 _ rfl w.heap.size ?_ 60 cs (0, 0) _ HM.out.d.a Try.underlying60 ?_ hi ?_); rfl; rfl)
    | ((with_reducible refine wpList_store_row rfl 60 _ _ rfl w.heap.size cs2 ?_ ?_ 60 cs HM3.out.d.a hi2 ?_ HR2.out.one ?_); rfl; rfl; (rw [HR.out.size, HR2.out.size]))
    | ((with_reducible refine wpList_load_row rfl 60 _ rfl w.heap.size ?_ 60 cs2 (0, 0) _ (setRow_heap _ _ _ _ _ _ HM3.out.d.a) Try.underlying60 ?_ hi2 ?_); rfl; rfl)
    | ((with_reducible refine wpList_store_row rfl 60 _ _ rfl (w.heap.size + 2) cs2 ?_ ?_ 60 Z60 ((setRow_other _ _ _ _ (by omega)).trans HM3.out.d.z) hi2 ?_ HR2.out.one ?_); rfl; rfl; (rw [Z60_size, HR2.out.size])))
  exact ret_row Try.results25 rfl rfl (setRow_heap _ _ _ _ _ _ ((setRow_other _ _ _ _ (by omega)).trans HM3.out.d.z)) HR2.out.size rfl (HM3.out.fin E1.out.symm (by rw [E2.out]; exact HR2.out) (by rw [E3.out, E4.out]))


set_option maxRecDepth 100000 in
set_option maxHeartbeats 2000000 in
theorem do_0 (w : World) (B b bm : Nat) (bl : Int → Nat) (t t' : Tb) (h : TAt w B b bm bl t) (cs : Array Value) (hR : RT cs t') (hO : TOk t') (x : Cl) (A : Option Addr) (c : Nat) (hB : ∀ w1, Below B w w1 → ClIn w1 x A c) (hl : x.l.length ≤ 40) (hk1 : x.k ≠ 1) (hk2 : x.k ≠ 2) (hk3 : x.k ≠ 3) (hk4 : x.k ≠ 4) :
    Calls Try.prog 25 #[.pointer (some ⟨b, 0, none⟩), .agg cs, .agg (qc x A c).toArray] w (Done w B b bm bl t t' x) := by
  have HR := Lib.hid hR
  have HO := Lib.hid hO
  have hz := zero60
  have hu := Try.underlying55
  have H3 := Lib.hid (do3 w cs x A c)
  have HTW := Lib.hid h
  have hBl : B ≤ w.heap.size := by have := blk_lt h.blk; have := h.lo; omega
  have k1 : (x.k == 1) = false := by simpa using hk1
  have k2 : (x.k == 2) = false := by simpa using hk2
  have k3 : (x.k == 3) = false := by simpa using hk3
  have k4 : (x.k == 4) = false := by simpa using hk4
  have E1 := Lib.hid (show stepT t x = took t x.nd x.n from by unfold stepT; rw [if_neg hk1, if_neg hk2, if_neg hk3, if_neg hk4])
  have E2 := Lib.hid (show stepT t' x = took t' x.nd x.n from by unfold stepT; rw [if_neg hk1, if_neg hk2, if_neg hk3, if_neg hk4])
  have E3 := Lib.hid (show stepB t x = tookb t x.nd x.n from by unfold stepB; rw [if_neg hk1, if_neg hk2, if_neg hk3, if_neg hk4])
  have E4 := Lib.hid (show stepB t' x = tookb t' x.nd x.n from by unfold stepB; rw [if_neg hk1, if_neg hk2, if_neg hk3, if_neg hk4])
  have HBI := Lib.hid hB
  clear hR hO h hk1 hk2 hk3 hk4 hB
  go_enter Try.func25, Try.ntmps25
  go_upto_region 1 with (fail)
  generalize hW : ((w.alloc (.cells cs 60)).alloc (.cells (qc x A c).toArray 55)).alloc (.cells Z60 60) = W1 at H3
  clear hW
  have HT := Lib.hid (HTW.out.below H3.out.2)
  have HI := Lib.hid (HBI.out W1 (H3.out.2.mono hBl))
  have c0 := (blk_cell H3.out.1.o 0).trans rfl
  have c1 := (blk_cell H3.out.1.o 1).trans rfl
  have c2 := (blk_cell H3.out.1.o 2).trans rfl
  have c3 := (blk_cell H3.out.1.o 3).trans rfl
  have hi := info60 HR.out.size
  go_wp2_with (first
    | (go_at_call 35; refine (Took_ok W1 B b bm bl t HT.out x.nd x.n HI.out.wnd HI.out.wn).mono ?_; rintro e w2 ⟨rfl, bl', hT2, hS2⟩; have HM := Lib.hid (mid HTW.out H3.out.1 H3.out.2 hT2 hS2); have HI2 := Lib.hid (HBI.out w2 ((hS2.bel HT.out (H3.out.2.mono hBl)))); clear c0 c1 c2 c3 hT2 hS2; have d1 := (blk_cell HM.out.d.o 1).trans rfl; have d2 := (blk_cell HM.out.d.o 2).trans rfl; have d3 := (blk_cell HM.out.d.o 3).trans rfl)
    | (go_at_call 53; refine ((rtook_ok w2 cs t' HR.out x.nd x.n HO.out HI.out.wn)).mono ?_; rintro e w3 ⟨cs2, rfl, hR2, hb3⟩; have HM3 := Lib.hid (HM.out.below hb3); have HR2 := Lib.hid hR2; have hi2 := info60 hR2.size; clear d1 d2 d3 hR2 hb3)
    | ((with_reducible refine wpList_load_row rfl 60 _ rfl w.heap.size ?_ 60 cs (0, 0) _ HM.out.d.a Try.underlying60 ?_ hi ?_); rfl; rfl)
    | ((with_reducible refine wpList_store_row rfl 60 _ _ rfl w.heap.size cs2 ?_ ?_ 60 cs HM3.out.d.a hi2 ?_ HR2.out.one ?_); rfl; rfl; (rw [HR.out.size, HR2.out.size]))
    | ((with_reducible refine wpList_load_row rfl 60 _ rfl w.heap.size ?_ 60 cs2 (0, 0) _ (setRow_heap _ _ _ _ _ _ HM3.out.d.a) Try.underlying60 ?_ hi2 ?_); rfl; rfl)
    | ((with_reducible refine wpList_store_row rfl 60 _ _ rfl (w.heap.size + 2) cs2 ?_ ?_ 60 Z60 ((setRow_other _ _ _ _ (by omega)).trans HM3.out.d.z) hi2 ?_ HR2.out.one ?_); rfl; rfl; (rw [Z60_size, HR2.out.size])))
  exact ret_row Try.results25 rfl rfl (setRow_heap _ _ _ _ _ _ ((setRow_other _ _ _ _ (by omega)).trans HM3.out.d.z)) HR2.out.size rfl (HM3.out.fin E1.out.symm (by rw [E2.out]; exact HR2.out) (by rw [E3.out, E4.out]))


theorem do_ok (w : World) (B b bm : Nat) (bl : Int → Nat) (t t' : Tb) (h : TAt w B b bm bl t) (cs : Array Value) (hR : RT cs t') (hO : TOk t') (x : Cl) (A : Option Addr) (c : Nat) (hB : ∀ w1, Below B w w1 → ClIn w1 x A c) (hl : x.l.length ≤ 40) :
    Calls Try.prog 25 #[.pointer (some ⟨b, 0, none⟩), .agg cs, .agg (qc x A c).toArray] w (Done w B b bm bl t t' x) := by
  by_cases h1 : x.k = 1
  · exact do_1 w B b bm bl t t' h cs hR hO x A c hB hl h1
  by_cases h2 : x.k = 2
  · exact do_2 w B b bm bl t t' h cs hR hO x A c hB hl h2
  by_cases h3 : x.k = 3
  · exact do_3 w B b bm bl t t' h cs hR hO x A c hB hl h3
  by_cases h4 : x.k = 4
  · exact do_4 w B b bm bl t t' h cs hR hO x A c hB hl h4
  exact do_0 w B b bm bl t t' h cs hR hO x A c hB hl h1 h2 h3 h4
end Go.Proofs.Ytibdjmmhdggpfaa
