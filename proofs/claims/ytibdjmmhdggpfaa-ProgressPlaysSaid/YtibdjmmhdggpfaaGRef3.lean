/-
  A part of a row read, and written, in one step. Over any program.
-/
import Derived.Laws.Rows
import Derived.Laws.Tables
import Derived.WalkKit
import Derived.StillTailTactics
import Derived.Test.YtibdjmmhdggpfaaGOps
import Derived.Laws.ResultCell
import Derived.Deep.RegionHeld3
namespace Go.Proofs.Ytibdjmmhdggpfaa.rows
set_option linter.unusedVariables false
set_option linter.unusedSimpArgs false
open Go

/-- A row, from place q on, with these cells. -/
def setMid (cur : Array Value) (q : Nat) : List Value → Array Value
  | [] => cur
  | v :: rest => setMid (cur.setIfInBounds q v) (q + 1) rest
theorem size_setMid (vs : List Value) : ∀ (cur : Array Value) (q : Nat), (setMid cur q vs).size = cur.size := by
  induction vs with
  | nil => intro cur q; rfl
  | cons v rest ih => intro cur q; rw [setMid, ih]; simp
section
variable {P : Program}
theorem setRow_self' (w : World) (g : Nat) (cur : Array Value) (t : TypeId) (fr : Nat × Nat) (hg : w.heap[g]? = some (.cells cur t fr)) : w.setRow g cur = w := by
  have hlt : g < w.heap.size := (Array.getElem?_eq_some_iff.1 hg).1
  have hv : w.heap[g] = .cells cur t fr := (Array.getElem?_eq_some_iff.1 hg).2
  unfold World.setRow
  cases w with
  | mk heap tape drawn os output =>
    congr 1
    apply Array.ext
    · simp
    · intro k h1 h2
      simp only [Array.getElem_modify]
      split
      · rename_i hk; subst hk; simp at hv; simp [hv]
      · rfl
theorem run_storeCells_mid (g : Nat) (t : TypeId) (p : Nat) : ∀ (vs : List Value) (i : Nat) (cur : Array Value) (w : World), w.heap[g]? = some (.cells cur t (0, 0)) → p + i + vs.length ≤ cur.size → (∀ v ∈ vs, v.oneCell' = true) →
    (storeCells ⟨g, p, none⟩ vs i).run P w = .ok () (w.setRow g (setMid cur (p + i) vs))
  | [], i, cur, w, hg, hl, _ => by
    simp only [storeCells, setMid]
    rw [setRow_self' w g cur t (0, 0) hg]
    rfl
  | v :: rest, i, cur, w, hg, hl, h1 => by
    have hi : p + i < cur.size := by simp at hl; omega
    have hadd : (⟨g, p, none⟩ : Addr).add i = ⟨g, p + i, none⟩ := by unfold Addr.add; split <;> simp_all
    have hcell : w.cell? ⟨g, p + i, none⟩ = some cur[p + i] := by simp [World.cell?, hg, hi]
    have hfro : w.frozen? ⟨g, p + i, none⟩ = false := by simp [World.frozen?, hg]
    have hst : (store ((⟨g, p, none⟩ : Addr).add i) v).run P w = .ok () (w.setRow g (cur.setIfInBounds (p + i) v)) := by
      rw [hadd, run_store P w _ v _ (h1 v (by simp)), hcell]
      simp [hfro, setCell_eq_setRow w g (p + i) cur t (0, 0) v hg]
    have ih := run_storeCells_mid g t p rest (i + 1) (cur.setIfInBounds (p + i) v) (w.setRow g (cur.setIfInBounds (p + i) v)) (setRow_heap w g cur _ t _ hg) (by simp at hl ⊢; omega) (fun x hx => h1 x (by simp [hx]))
    simp only [storeCells, Sem.run_bind, hst, Result.andThen_ok, ih, setRow_setRow, setMid]
    rfl
theorem run_storeVar_mid (w : World) (g p : Nat) (t ty : TypeId) (cur : Array Value) (vs : List Value) (hg : w.heap[g]? = some (.cells cur t (0, 0))) (hi : (P.info? ty).map (·.size) = some vs.length) (hl : p + vs.length ≤ cur.size) (h1 : ∀ v ∈ vs, v.oneCell' = true) :
    (storeVar ty ⟨g, p, none⟩ (.agg vs.toArray)).run P w = .ok () (w.setRow g (setMid cur p vs)) := by
  have := run_storeCells_mid (P := P) g t p vs 0 cur w hg (by omega) h1
  cases hq : P.info? ty with
  | none => simp [hq] at hi
  | some i =>
    have hs : vs.length = i.size := by simp [hq] at hi; omega
    simp [storeVar, sizeOf, typeInfo, hq, Value.cells, hs, this]
theorem wpList_store_mid {ops : Array Oper} {rest : List Oper} {o : Oper} {a : Act} {w : World} {Q : Exit → Act → World → Prop} (hgd : o.guard = none) (ty : TypeId) (x y : Operand) (ho : o.op = .store ty x y)
    (g p : Nat) (vs : List Value) (hx : a.eval x = .pointer (some ⟨g, p, none⟩)) (hy : a.eval y = .agg vs.toArray)
    (t : TypeId) (cur : Array Value) (hg : w.heap[g]? = some (.cells cur t (0, 0))) (hi : (P.info? ty).map (·.size) = some vs.length) (hl : p + vs.length ≤ cur.size) (h1 : ∀ v ∈ vs, v.oneCell' = true)
    (h : wpList P ops Q rest (a.put o.dst undef) (w.setRow g (setMid cur p vs))) : wpList P ops Q (o :: rest) a w :=
  wpList_plain hgd fun _ hK => by
    unfold Oper.wp execOp
    simp only [ho, hx, hy, Instr.storeAt, Instr.sureAddr, Sem.run_bind, Sem.run_pure, Result.andThen_ok, run_storeVar_mid w g p t ty cur vs hg hi hl h1]
    exact hK _ _ h

theorem wpList_store_cell {ops : Array Oper} {rest : List Oper} {o : Oper} {a : Act} {w : World} {Q : Exit → Act → World → Prop} (hgd : o.guard = none) (ty : TypeId) (x y : Operand) (ho : o.op = .store ty x y)
    (g p : Nat) (v : Value) (hx : a.eval x = .pointer (some ⟨g, p, none⟩)) (hy : a.eval y = v) (hv : v.cells = #[v]) (h1 : v.oneCell' = true)
    (t : TypeId) (cur : Array Value) (hg : w.heap[g]? = some (.cells cur t (0, 0))) (hi : (P.info? ty).map (·.size) = some 1) (hl : p < cur.size)
    (h : wpList P ops Q rest (a.put o.dst undef) (w.setRow g (cur.setIfInBounds p v))) : wpList P ops Q (o :: rest) a w :=
  wpList_plain hgd fun _ hK => by
    have hr := run_storeCells_mid (P := P) g t p [v] 0 cur w hg (by simp; omega) (by simpa using h1)
    have hrun : (storeVar ty ⟨g, p, none⟩ v).run P w = .ok () (w.setRow g (cur.setIfInBounds p v)) := by
      cases hq : P.info? ty with
      | none => simp [hq] at hi
      | some i =>
        have hs : i.size = 1 := by simpa [hq] using hi
        simpa [storeVar, sizeOf, typeInfo, hq, hv, hs, setMid] using hr
    unfold Oper.wp execOp
    simp only [ho, hx, hy, Instr.storeAt, Instr.sureAddr, Sem.run_bind, Sem.run_pure, Result.andThen_ok, hrun]
    exact hK _ _ h
theorem run_loadVar_mid (w : World) (g p : Nat) (t ty : TypeId) (cs : Array Value) (vs : List Value) (fr : Nat × Nat) (d : TypeDesc) (hg : w.heap[g]? = some (.cells cs t fr)) (hv : ∀ j v, vs[j]? = some v → cs[p + j]? = some v)
    (hu : P.underlying ty = some d) (hd : (match d with | .struct _ | .array _ _ => true | _ => false) = true) (hi : (P.info? ty).map (·.size) = some vs.length) :
    (loadVar ty ⟨g, p, none⟩).run P w = .ok (.agg vs.toArray) w := by
  have hl : (loadCells ⟨g, p, none⟩ vs.length).run P w = .ok vs.toArray w :=
    run_loadCells_list (P := P) w ⟨g, p, none⟩ vs (fun j v hjv => by
      have hadd : (⟨g, p, none⟩ : Addr).add j = ⟨g, p + j, none⟩ := by unfold Addr.add; split <;> simp_all
      rw [hadd, cell_of_row w g _ cs t fr hg]
      exact hv j v hjv)
  cases hq : P.info? ty with
  | none => simp [hq] at hi
  | some i =>
    have hs : i.size = vs.length := by simpa [hq] using hi
    have hagg : (isAgg ty).run P w = .ok true w := by
      unfold isAgg
      rw [Sem.run_bind, run_underlying hu w]
      cases d <;> simp_all
    simp [loadVar, Sem.run_bind, hagg, sizeOf, typeInfo, hq, hs, hl]
theorem wpList_load_mid {ops : Array Oper} {rest : List Oper} {o : Oper} {a : Act} {w : World} {Q : Exit → Act → World → Prop} (hgd : o.guard = none) (ty : TypeId) (x : Operand) (ho : o.op = .load ty x)
    (g p : Nat) (vs : List Value) (hx : a.eval x = .pointer (some ⟨g, p, none⟩)) (t : TypeId) (cs : Array Value) (fr : Nat × Nat) (d : TypeDesc) (hg : w.heap[g]? = some (.cells cs t fr)) (hv : ∀ j v, vs[j]? = some v → cs[p + j]? = some v)
    (hu : P.underlying ty = some d) (hd : (match d with | .struct _ | .array _ _ => true | _ => false) = true) (hi : (P.info? ty).map (·.size) = some vs.length)
    (h : wpList P ops Q rest (a.put o.dst (.agg vs.toArray)) w) : wpList P ops Q (o :: rest) a w :=
  wpList_plain hgd fun _ hK => by
    unfold Oper.wp execOp
    simp only [ho, hx, Instr.loadAt, Instr.sureAddr, Sem.run_bind, Sem.run_pure, Result.andThen_ok, run_loadVar_mid w g p t ty cs vs fr d hg hv hu hd hi]
    exact hK _ _ h
/-- The same in a region that draws its order, among what only reads. -/
theorem wpStill_load_row {ops : Array Oper} {rest : List Oper} {o : Oper} {a : Act} {w : World} {Q : Act → Prop} (hgd : o.guard = none) (ty : TypeId) (x : Operand) (ho : o.op = .load ty x)
    (g : Nat) (hx : a.eval x = .pointer (some ⟨g, 0, none⟩)) (t : TypeId) (cs : Array Value) (fr : Nat × Nat) (d : TypeDesc) (hg : w.heap[g]? = some (.cells cs t fr))
    (hu : P.underlying ty = some d) (hd : (match d with | .struct _ | .array _ _ => true | _ => false) = true) (hi : (P.info? ty).map (·.size) = some cs.size)
    (h : wpStill P ops w Q rest (a.put o.dst (.agg cs))) : wpStill P ops w Q (o :: rest) a :=
  wpStill_step fun K hK => by
    rw [if_pos (by simp [Region.wanted, hgd])]
    unfold Oper.still execOp
    simp only [ho, hx, Instr.loadAt, Instr.sureAddr, Sem.run_bind, Sem.run_pure, Result.andThen_ok, run_loadVar_row w g t ty cs fr d hg hu hd hi]
    exact ⟨rfl, hK _ h⟩
end
end Go.Proofs.Ytibdjmmhdggpfaa.rows

/-
  The document's table of lines, as a value of thirty-five cells.
-/
namespace Go.Proofs.Ytibdjmmhdggpfaa
set_option linter.unusedVariables false
set_option linter.unusedSimpArgs false
open Go.RowKit Go.Maps Go.Proofs.YtibdjmmhdggpfaaW.PrintWords Go.Proofs.YtibdjmmhdggpfaaW.PrintMore Go.Proofs.Ytibdjmmhdggpfaa.PPollPlays Go.Proofs.Ytibdjmmhdggpfaa.pure Go.Proofs.Ytibdjmmhdggpfaa.fmap

/-- These cells are the table t. -/
structure RT (cs : Array Value) (t : Tb) : Prop where
  size : cs.size = 35
  one : cs.all (·.oneCell') = true
  has : ∀ k : Nat, k < 7 → cs[k]? = some (.bool (t k).isSome)
  m : ∀ k : Nat, k < 7 → cs[7 + k * 4]? = some (.int .u64 (lnz t k).m)
  n : ∀ k : Nat, k < 7 → cs[7 + k * 4 + 1]? = some (.int .u64 (lnz t k).n)
  r : ∀ k : Nat, k < 7 → cs[7 + k * 4 + 2]? = some (.int .u64 (lnz t k).r)
  a : ∀ k : Nat, k < 7 → cs[7 + k * 4 + 3]? = some (.bool (lnz t k).a)
  key : ∀ k, (t k).isSome = true → 0 ≤ k ∧ k ≤ 6

theorem is_out (w : World) (cs : Array Value) (n : Int) (hn : ¬ (0 ≤ n ∧ n ≤ 6)) : Calls Try.prog 73 #[.agg cs, .int .i64 n] w fun e w' => e = .returned (.bool false) ∧ w' = w.alloc (.cells cs 60) := by
  by_cases h0 : 0 ≤ n
  · have h1 : ¬ n ≤ 6 := fun h => hn ⟨h0, h⟩
    clear hn
    go_enter Try.func73, Try.ntmps73
    go_wp2
    go_ret
    exact ⟨rfl, rfl⟩
  · clear hn
    go_enter Try.func73, Try.ntmps73
    go_wp2
    go_ret
    exact ⟨rfl, rfl⟩
theorem is_in (w : World) (cs : Array Value) (k : Nat) (hk : k < 7) (v : Bool) (hv : cs[k]? = some (.bool v)) : Calls Try.prog 73 #[.agg cs, .int .i64 k] w fun e w' => e = .returned (.bool v) ∧ w' = w.alloc (.cells cs 60) := by
  have h6 : (k : Int) ≤ 6 := by omega
  have hc : (w.alloc (.cells cs 60)).cell? ⟨w.heap.size, k, none⟩ = some (.bool v) := by rw [blk_cell (heap_alloc_new w (.cells cs 60))]; exact hv
  go_enter Try.func73, Try.ntmps73
  go_wp2
  go_ret
  exact ⟨rfl, rfl⟩

theorem info60 {cs : Array Value} (h : cs.size = 35) : (Try.prog.info? 60).map (·.size) = some cs.size := by rw [h]; kernel_rfl
theorem RT.out_none {cs : Array Value} {t : Tb} (h : RT cs t) {n : Int} (hn : ¬ (0 ≤ n ∧ n ≤ 6)) : t n = none := by
  cases e : t n with
  | none => rfl
  | some x => exact absurd (h.key n (by rw [e]; rfl)) hn
theorem is_ok (w : World) (cs : Array Value) (t : Tb) (h : RT cs t) (n : Int) : Calls Try.prog 73 #[.agg cs, .int .i64 n] w fun e w' => e = .returned (.bool (t n).isSome) ∧ w' = w.alloc (.cells cs 60) := by
  by_cases hn : 0 ≤ n ∧ n ≤ 6
  · obtain ⟨k, rfl⟩ := Int.eq_ofNat_of_zero_le hn.1
    exact is_in w cs k (by omega) _ (h.has k (by omega))
  · rw [h.out_none hn]
    exact is_out w cs n hn

set_option maxRecDepth 100000 in
theorem get_none (w : World) (cs : Array Value) (t : Tb) (h : RT cs t) (n : Int) (hn : t n = none) : Calls Try.prog 58 #[.agg cs, .int .i64 n] w fun e w' => e = .returned (.tuple #[lv z0, .bool false]) ∧ Below w.heap.size w w' := by
  have HI := fun w => Lib.hid (is_ok w cs t h n)
  rw [hn] at HI
  have hi := info60 h.size
  clear h hn
  go_enter Try.func58, Try.ntmps58
  go_wp2_with (first
    | (refine wpList_load_row rfl 60 _ rfl w.heap.size rfl 60 cs (0, 0) _ (blk_alloc (heap_alloc_new _ _) _) Try.underlying60 rfl hi ?_)
    | (go_at_call 73; refine (HI _).out.mono ?_; rintro e w1 ⟨rfl, rfl⟩))
  exact bodyPost_ret (v := .tuple #[lv z0, .bool false]) (by simp [results, Try.results58, go_sem]) rfl ⟨rfl, ((alloc_below _ _).trans ((alloc_below _ _).mono (by simp))).trans ((alloc_below _ _).mono (by simp; omega))⟩
set_option maxRecDepth 100000 in
theorem get_some (w : World) (cs : Array Value) (t : Tb) (h : RT cs t) (n : Int) (x : Ln) (hn : t n = some x) : Calls Try.prog 58 #[.agg cs, .int .i64 n] w fun e w' => e = .returned (.tuple #[lv x, .bool true]) ∧ Below w.heap.size w w' := by
  have HI := fun w => Lib.hid (is_ok w cs t h n)
  rw [hn] at HI
  have hi := info60 h.size
  have hk := h.key n (by rw [hn]; rfl)
  obtain ⟨k, rfl⟩ := Int.eq_ofNat_of_zero_le hk.1
  have hk7 : k < 7 := by omega
  have hx : lnz t k = x := by simp [lnz, hn]
  have c0 := h.m k hk7
  have c1 := h.n k hk7
  have c2 := h.r k hk7
  have c3 := h.a k hk7
  rw [hx] at c0 c1 c2 c3
  have hb := heap_alloc_new w (.cells cs 60)
  have d0 := (blk_cell hb _).trans c0
  have d1 := (blk_cell hb _).trans c1
  have d2 := (blk_cell hb _).trans c2
  have d3 := (blk_cell hb _).trans c3
  have hu := Try.underlying57
  clear h hn hk hx hb
  go_enter Try.func58, Try.ntmps58
  go_wp2_with (first
    | (refine wpList_load_row rfl 60 _ rfl w.heap.size rfl 60 cs (0, 0) _ (blk_alloc (heap_alloc_new _ _) _) Try.underlying60 rfl hi ?_)
    | (go_at_call 73; refine (HI _).out.mono ?_; rintro e w1 ⟨rfl, rfl⟩))
  exact bodyPost_ret (v := .tuple #[lv x, .bool true]) (by simp [results, Try.results58, go_sem]) rfl ⟨rfl, ((alloc_below _ _).trans ((alloc_below _ _).mono (by simp))).trans ((alloc_below _ _).mono (by simp; omega))⟩
end Go.Proofs.Ytibdjmmhdggpfaa

/-
  The document's Took, Refused and Heard.
-/
namespace Go.Proofs.Ytibdjmmhdggpfaa
set_option linter.unusedVariables false
set_option linter.unusedSimpArgs false
open Go.RowKit Go.Maps Go.Proofs.YtibdjmmhdggpfaaW.PrintWords Go.Proofs.YtibdjmmhdggpfaaW.PrintMore Go.Proofs.Ytibdjmmhdggpfaa.PPollPlays Go.Proofs.Ytibdjmmhdggpfaa.pure Go.Proofs.Ytibdjmmhdggpfaa.fmap

/-- What a function that hands back a table and a bool leaves. -/
def TabBool (w : World) (t : Tb) (b : Bool) (e : Ending) (w' : World) : Prop := ∃ cs, e = .returned (.tuple #[.agg cs, .bool b]) ∧ RT cs t ∧ Below w.heap.size w w'
theorem ret_row {fn : Func} {p u : Tmp} (h : fn.results = #[.cell p 60, .tmp u]) {a : Act} {w : World} {Q : Ending → World → Prop} {g : Nat} {cs : Array Value} {b : Bool} (hp : a.tmps.getD p undef = .pointer (some ⟨g, 0, none⟩)) (hb : a.tmps.getD u undef = .bool b)
    (hg : w.heap[g]? = some (.cells cs 60 (0, 0))) (hs : cs.size = 35) (hd : a.defers = []) (post : Q (.returned (.tuple #[.agg cs, .bool b])) w) : bodyPost Try.prog fn Q Exit.ret a w := by
  refine bodyPost_ret (v := .tuple #[.agg cs, .bool b]) ?_ hd post
  rw [results_cell_tmp h, hp, hb]
  have := run_loadVar_row (P := Try.prog) w g 60 60 cs (0, 0) _ hg Try.underlying60 rfl (info60 hs)
  simp [asAddr, this]
/-- Thirty-five zeros. -/
def Z60 : Array Value := #[.bool false, .bool false, .bool false, .bool false, .bool false, .bool false, .bool false, .int .u64 0, .int .u64 0, .int .u64 0, .bool false, .int .u64 0, .int .u64 0, .int .u64 0, .bool false, .int .u64 0, .int .u64 0, .int .u64 0, .bool false, .int .u64 0, .int .u64 0, .int .u64 0, .bool false, .int .u64 0, .int .u64 0, .int .u64 0, .bool false, .int .u64 0, .int .u64 0, .int .u64 0, .bool false, .int .u64 0, .int .u64 0, .int .u64 0, .bool false]
theorem zero60 (w : World) : (zeroValue 60).run Try.prog w = .ok (.agg Z60) w := by kernel_rfl

theorem Z60_size : Z60.size = 35 := by kernel_rfl
/-- The two blocks that each of these functions begins with. -/
theorem two_blocks (w : World) (cs : Array Value) : ((w.alloc (.cells cs 60)).alloc (.cells Z60 60)).heap[w.heap.size]? = some (.cells cs 60 (0, 0)) ∧ ((w.alloc (.cells cs 60)).alloc (.cells Z60 60)).heap[w.heap.size + 1]? = some (.cells Z60 60 (0, 0)) ∧
    Below w.heap.size w ((w.alloc (.cells cs 60)).alloc (.cells Z60 60)) := by
  refine ⟨blk_alloc (heap_alloc_new w _) _, ?_, (alloc_below _ _).trans ((alloc_below _ _).mono (by simp))⟩
  have := heap_alloc_new (w.alloc (.cells cs 60)) (.cells Z60 60)
  simpa using this
theorem setRow_below {w W : World} {B g : Nat} {cs : Array Value} (h : Below B w W) (hB : B ≤ g) : Below B w (W.setRow g cs) :=
  h.trans ⟨rfl, rfl, rfl, by simp, fun k hk => setRow_other W g k cs (by omega)⟩

set_option maxRecDepth 100000 in
set_option maxHeartbeats 400000 in
theorem rtook_none (w : World) (cs : Array Value) (t : Tb) (h : RT cs t) (n i : Int) (hn : t n = none) : Calls Try.prog 53 #[.agg cs, .int .i64 n, .int .u64 i] w (TabBool w t false) := by
  have HI := fun w => Lib.hid (is_ok w cs t h n)
  rw [hn] at HI
  have hi := info60 h.size
  have hz := zero60
  have HR := Lib.hid h
  have HT := Lib.hid (two_blocks w cs)
  clear h hn
  go_enter Try.func53, Try.ntmps53
  go_upto_region 1 with (fail)
  generalize (w.alloc (.cells cs 60)).alloc (.cells Z60 60) = W at HT ⊢
  have HB0 := Lib.hid HT.out.1
  have HB1 := Lib.hid HT.out.2.1
  have hlt := blk_lt HT.out.2.1
  go_wp2_with (first
    | (refine wpList_load_row rfl 60 _ rfl w.heap.size rfl 60 cs (0, 0) _ (by first | exact HB0.out | exact blk_alloc HB0.out _) Try.underlying60 rfl hi ?_)
    | (refine wpList_store_row rfl 60 _ _ rfl (w.heap.size + 1) cs rfl rfl 60 Z60 (by first | exact HB1.out | exact blk_alloc HB1.out _) hi (by rw [Z60_size, HR.out.size]) HR.out.one ?_)
    | (go_at_call 73; refine (HI _).out.mono ?_; rintro e w1 ⟨rfl, rfl⟩))
  exact ret_row Try.results53 rfl rfl (setRow_heap _ _ _ _ _ _ (blk_alloc HB1.out _)) HR.out.size rfl ⟨cs, rfl, HR.out, setRow_below (HT.out.2.2.alloc HT.out.2.2.size _) (by omega)⟩
set_option maxRecDepth 100000 in
set_option maxHeartbeats 400000 in
theorem rtook_far (w : World) (cs : Array Value) (t : Tb) (h : RT cs t) (n i : Int) (x : Ln) (hn : t n = some x) (hx : ¬ i ≤ IX) : Calls Try.prog 53 #[.agg cs, .int .i64 n, .int .u64 i] w (TabBool w t false) := by
  have HI := fun w => Lib.hid (is_ok w cs t h n)
  rw [hn] at HI
  have hi := info60 h.size
  have hz := zero60
  have HR := Lib.hid h
  have HT := Lib.hid (two_blocks w cs)
  have hq : decide ((1152921504606846976 : Int) < i) = true := by unfold IX at hx; simp; omega
  clear h hn hx
  go_enter Try.func53, Try.ntmps53
  go_upto_region 1 with (fail)
  generalize (w.alloc (.cells cs 60)).alloc (.cells Z60 60) = W at HT ⊢
  have HB0 := Lib.hid HT.out.1
  have HB1 := Lib.hid HT.out.2.1
  have hlt := blk_lt HT.out.2.1
  go_wp2_with (first
    | (refine wpList_load_row rfl 60 _ rfl w.heap.size rfl 60 cs (0, 0) _ (by first | exact HB0.out | exact blk_alloc HB0.out _) Try.underlying60 rfl hi ?_)
    | (refine wpList_store_row rfl 60 _ _ rfl (w.heap.size + 1) cs rfl rfl 60 Z60 (by first | exact HB1.out | exact blk_alloc HB1.out _) hi (by rw [Z60_size, HR.out.size]) HR.out.one ?_)
    | (go_at_call 73; refine (HI _).out.mono ?_; rintro e w1 ⟨rfl, rfl⟩))
  exact ret_row Try.results53 rfl rfl (setRow_heap _ _ _ _ _ _ (blk_alloc HB1.out _)) HR.out.size rfl ⟨cs, rfl, HR.out, setRow_below (HT.out.2.2.alloc HT.out.2.2.size _) (by omega)⟩

/-- The cells of line k. -/
structure LnAt (cs : Array Value) (k : Nat) (x : Ln) : Prop where
  m : cs[7 + k * 4]? = some (.int .u64 x.m)
  n : cs[7 + k * 4 + 1]? = some (.int .u64 x.n)
  r : cs[7 + k * 4 + 2]? = some (.int .u64 x.r)
  a : cs[7 + k * 4 + 3]? = some (.bool x.a)
theorem LnAt.all {cs : Array Value} {k : Nat} {x : Ln} (h : LnAt cs k x) : ∀ j v, [Value.int .u64 x.m, .int .u64 x.n, .int .u64 x.r, .bool x.a][j]? = some v → cs[7 + k * 4 + j]? = some v := fun j v hj => by
  match j with
  | 0 => cases hj; exact h.m
  | 1 => cases hj; exact h.n
  | 2 => cases hj; exact h.r
  | 3 => cases hj; exact h.a
  | j + 4 => cases hj
theorem RT.line {cs : Array Value} {t : Tb} (h : RT cs t) {k : Nat} (hk : k < 7) {x : Ln} (hx : t k = some x) : LnAt cs k x := by
  have e : lnz t k = x := by simp [lnz, hx]
  exact ⟨e ▸ h.m k hk, e ▸ h.n k hk, e ▸ h.r k hk, e ▸ h.a k hk⟩

open rows in
/-- The same cells, but line k. -/
abbrev lput (cs : Array Value) (k : Nat) (x : Ln) : Array Value := setMid cs (7 + k * 4) [.int .u64 x.m, .int .u64 x.n, .int .u64 x.r, .bool x.a]
theorem all_set {cs : Array Value} (h : cs.all (·.oneCell') = true) (i : Nat) {v : Value} (hv : v.oneCell' = true) : (cs.setIfInBounds i v).all (·.oneCell') = true := by
  rw [Array.all_eq_true_iff_forall_mem] at h ⊢
  intro u hu
  obtain ⟨j, hj, rfl⟩ := Array.mem_iff_getElem.1 hu
  have hj' : j < cs.size := by simpa using hj
  rw [Array.getElem_setIfInBounds hj']
  split
  · exact hv
  · exact h _ (Array.getElem_mem (by simpa using hj))
theorem lput_one {cs : Array Value} (h : cs.all (·.oneCell') = true) (k : Nat) (x : Ln) : (lput cs k x).all (·.oneCell') = true := all_set (all_set (all_set (all_set h _ rfl) _ rfl) _ rfl) _ rfl
theorem lput_get {cs : Array Value} {k j : Nat} {x : Ln} (h : j < 7 + k * 4 ∨ 7 + k * 4 + 3 < j) : (lput cs k x)[j]? = cs[j]? := by
  simp only [lput, rows.setMid, Array.getElem?_setIfInBounds]
  rw [if_neg (by omega), if_neg (by omega), if_neg (by omega), if_neg (by omega)]
theorem lput_m {cs : Array Value} {k : Nat} {x : Ln} (h : 7 + k * 4 + 3 < cs.size) : (lput cs k x)[7 + k * 4]? = some (.int .u64 x.m) := by
  simp only [lput, rows.setMid, Array.getElem?_setIfInBounds, Array.size_setIfInBounds]
  rw [if_neg (by omega), if_neg (by omega), if_neg (by omega), if_pos trivial, if_pos (by omega)]
theorem lput_n {cs : Array Value} {k : Nat} {x : Ln} (h : 7 + k * 4 + 3 < cs.size) : (lput cs k x)[7 + k * 4 + 1]? = some (.int .u64 x.n) := by
  simp only [lput, rows.setMid, Array.getElem?_setIfInBounds, Array.size_setIfInBounds]
  rw [if_neg (by omega), if_neg (by omega), if_pos trivial, if_pos (by omega)]
theorem lput_r {cs : Array Value} {k : Nat} {x : Ln} (h : 7 + k * 4 + 3 < cs.size) : (lput cs k x)[7 + k * 4 + 2]? = some (.int .u64 x.r) := by
  simp only [lput, rows.setMid, Array.getElem?_setIfInBounds, Array.size_setIfInBounds]
  rw [if_neg (by omega), if_pos trivial, if_pos (by omega)]
theorem lput_a {cs : Array Value} {k : Nat} {x : Ln} (h : 7 + k * 4 + 3 < cs.size) : (lput cs k x)[7 + k * 4 + 3]? = some (.bool x.a) := by
  simp only [lput, rows.setMid, Array.getElem?_setIfInBounds, Array.size_setIfInBounds]
  rw [if_pos trivial, if_pos (by omega)]
theorem RT.put {cs : Array Value} {t : Tb} (h : RT cs t) {k : Nat} (hk : k < 7) (hs : (t k).isSome = true) (x : Ln) : RT (lput cs k x) (tput t k x) := by
  have hsz := h.size
  have lz : lnz (tput t k x) k = x := by simp [lnz, tput_same]
  have lo : ∀ j : Nat, j ≠ k → lnz (tput t k x) j = lnz t j := fun j hj => by simp [lnz, tput_other t x (show (j : Int) ≠ k by omega)]
  refine ⟨by rw [rows.size_setMid, hsz], lput_one h.one k x, fun j hj => ?_, fun j hj => ?_, fun j hj => ?_, fun j hj => ?_, fun j hj => ?_, fun j hj => ?_⟩
  · rw [lput_get (by omega), h.has j hj]
    by_cases e : j = k
    · subst e; rw [tput_same, hs]; rfl
    · rw [tput_other t x (show (j : Int) ≠ k by omega)]
  · by_cases e : j = k
    · subst e; rw [lz]; exact lput_m (by omega)
    · rw [lput_get (by omega), lo j e]; exact h.m j hj
  · by_cases e : j = k
    · subst e; rw [lz]; exact lput_n (by omega)
    · rw [lput_get (by omega), lo j e]; exact h.n j hj
  · by_cases e : j = k
    · subst e; rw [lz]; exact lput_r (by omega)
    · rw [lput_get (by omega), lo j e]; exact h.r j hj
  · by_cases e : j = k
    · subst e; rw [lz]; exact lput_a (by omega)
    · rw [lput_get (by omega), lo j e]; exact h.a j hj
  · by_cases e : j = k
    · rw [e]; omega
    · rw [tput_other t x e] at hj; exact h.key j hj
theorem lc_one (x : Ln) : ∀ v ∈ (lc x).toList, v.oneCell' = true := by simp; exact ⟨rfl, rfl, rfl, rfl⟩
theorem rtook_end {w W2 : World} {cs : Array Value} {t : Tb} (HR : RT cs t) {k lb : Nat} (hk : k < 7) {x q : Ln} (hN : t k = some x) {y : Ln} (hX : y = q)
    (h : W2.heap[w.heap.size]? = some (.cells cs 60 (0, 0)) ∧ W2.heap[w.heap.size + 1]? = some (.cells Z60 60 (0, 0)) ∧ W2.heap[lb]? = some (.cells (lc q) 57 (0, 0)) ∧ Below w.heap.size w W2) :
    (Try.prog.info? 60).map (·.size) = some (lput cs k q).size ∧ (W2.setRow w.heap.size (lput cs k q)).heap[w.heap.size + 1]? = some (.cells Z60 60 (0, 0)) ∧ Z60.size = (lput cs k q).size ∧ (lput cs k q).all (·.oneCell') = true ∧
      ∀ b, TabBool w (tput t k y) b (.returned (.tuple #[.agg (lput cs k q), .bool b])) ((W2.setRow w.heap.size (lput cs k q)).setRow (w.heap.size + 1) (lput cs k q)) ∧
        TabBool w (tput t k y) b (.returned (.tuple #[.agg (lput cs k q), .bool b])) (((W2.setRow w.heap.size (lput cs k q)).drew).setRow (w.heap.size + 1) (lput cs k q)) := by
  subst hX
  have hs : (lput cs k y).size = 35 := by rw [rows.size_setMid, HR.size]
  have hp := HR.put hk (by rw [hN]; rfl) y
  have h1 := setRow_below (cs := lput cs k y) h.2.2.2 (Nat.le_refl _)
  have hb := setRow_below (cs := lput cs k y) h1 (Nat.le_succ _)
  have hb2 := setRow_below (cs := lput cs k y) h1.drew (Nat.le_succ _)
  exact ⟨info60 hs, (setRow_other _ _ _ _ (by omega)).trans h.2.1, by rw [hs, Z60_size], lput_one HR.one k y, fun b => ⟨⟨_, rfl, hp, hb⟩, ⟨_, rfl, hp, hb2⟩⟩⟩
set_option maxRecDepth 100000 in
set_option maxHeartbeats 1000000 in
theorem rtook_some (w : World) (cs : Array Value) (t : Tb) (h : RT cs t) (k : Nat) (hk : k < 7) (i : Int) (hwi : (Lit.int .u64 i).wf = true) (x : Ln) (hn : t k = some x) (hx : i ≤ IX) (hok : x.Ok) : Calls Try.prog 53 #[.agg cs, .int .i64 k, .int .u64 i] w (TabBool w (tput t k (tookx x i)) (decide (x.m < i))) := by
  have HI := fun w => Lib.hid (is_ok w cs t h k)
  rw [hn] at HI
  have hi := info60 h.size
  have hz := zero60
  have HR := Lib.hid h
  have HT := Lib.hid (two_blocks w cs)
  have hq : decide ((1152921504606846976 : Int) < i) = false := by unfold IX at hx; simp; omega
  have HL := Lib.hid (h.line hk hn)
  have HN := Lib.hid hn
  have hwi1 := wrap_i hwi (n := IX + 1) (by omega) (Int.le_refl _)
  have hu := Try.underlying57
  clear h hn hx
  go_enter Try.func53, Try.ntmps53
  go_upto_region 1 with (fail)
  generalize (w.alloc (.cells cs 60)).alloc (.cells Z60 60) = W at HT ⊢
  have HB0 := Lib.hid HT.out.1
  have HB1 := Lib.hid HT.out.2.1
  have hlt := blk_lt HT.out.2.1
  have hlt0 := blk_lt HT.out.1
  go_upto_region 4 with (first
    | ((with_reducible refine wpList_load_row rfl 60 _ rfl w.heap.size ?_ 60 cs (0, 0) _ ?_ Try.underlying60 ?_ hi ?_); rfl; (first | exact HB0.out | exact blk_alloc HB0.out _); rfl)
    | ((with_reducible refine rows.wpList_load_mid rfl 57 _ rfl w.heap.size (7 + k * 4) [.int .u64 x.m, .int .u64 x.n, .int .u64 x.r, .bool x.a] ?_ 60 cs (0, 0) _ (blk_alloc HB0.out _) HL.out.all Try.underlying57 ?_ ?_ ?_); rfl; rfl; kernel_rfl)
    | (go_at_call 73; refine (HI _).out.mono ?_; rintro e w1 ⟨rfl, rfl⟩))
  rcases Int.lt_or_le x.m i with c1 | c1
  · rcases Int.lt_or_le i x.n with c2 | c2
    · have HX := Lib.hid (show tookx x i = (⟨i, x.n, x.r, x.a⟩ : Ln) by unfold tookx; rw [if_pos c1, if_neg (by omega)])
      go_upto_region 9 with (fail)
      have HT2 := Lib.hid (show _ ∧ _ ∧ _ ∧ _ from ⟨blk_alloc (blk_alloc HB0.out (.cells cs 60)) (.cells (lc (⟨i, x.n, x.r, x.a⟩ : Ln)) 57), blk_alloc (blk_alloc HB1.out (.cells cs 60)) (.cells (lc (⟨i, x.n, x.r, x.a⟩ : Ln)) 57),
        heap_alloc_new (W.alloc (.cells cs 60)) (.cells (lc (⟨i, x.n, x.r, x.a⟩ : Ln)) 57), (HT.out.2.2.alloc HT.out.2.2.size (.cells cs 60)).alloc (Nat.le_trans HT.out.2.2.size (by simp)) (.cells (lc (⟨i, x.n, x.r, x.a⟩ : Ln)) 57)⟩)
      simp only [World.size_alloc] at HT2
      generalize (W.alloc (.cells cs 60)).alloc (.cells (lc (⟨i, x.n, x.r, x.a⟩ : Ln)) 57) = W2 at HT2 ⊢
      generalize W.heap.size + 1 = lb at HT2 ⊢
      have HQ := Lib.hid (rtook_end HR.out hk HN.out HX.out HT2.out)
      go_wp2_with (first
        | ((with_reducible refine wpList_load_row rfl 57 _ rfl lb ?_ 57 (lc (⟨i, x.n, x.r, x.a⟩ : Ln)) (0, 0) _ HT2.out.2.2.1 Try.underlying57 ?_ ?_ ?_); rfl; rfl; kernel_rfl)
        | ((with_reducible refine rows.wpList_store_mid rfl 57 _ _ rfl w.heap.size (7 + k * 4) (lc (⟨i, x.n, x.r, x.a⟩ : Ln)).toList ?_ ?_ 60 cs HT2.out.1 ?_ ?_ ?_ ?_); rfl; rfl; kernel_rfl; (simp [HR.out.size]; omega); exact lc_one _)
        | ((with_reducible refine wpList_load_row rfl 60 _ rfl w.heap.size ?_ 60 (lput cs k (⟨i, x.n, x.r, x.a⟩ : Ln)) (0, 0) _ (setRow_heap _ _ _ _ _ _ HT2.out.1) Try.underlying60 ?_ HQ.out.1 ?_); rfl; rfl)
        | ((with_reducible refine wpList_store_row rfl 60 _ _ rfl (w.heap.size + 1) (lput cs k (⟨i, x.n, x.r, x.a⟩ : Ln)) ?_ ?_ 60 Z60 HQ.out.2.1 HQ.out.1 HQ.out.2.2.1 HQ.out.2.2.2.1 ?_); rfl; rfl))
      rw [show decide (x.m < i) = true from by simpa using c1]
      exact ret_row Try.results53 rfl rfl (setRow_heap _ _ _ _ _ _ HQ.out.2.1) (HQ.out.2.2.1.symm.trans Z60_size) rfl (HQ.out.2.2.2.2 true).1
    · have HX := Lib.hid (show tookx x i = (⟨i, i + 1, x.r, x.a⟩ : Ln) by unfold tookx; rw [if_pos c1, if_pos (by omega)])
      go_upto_region 9 with (fail)
      have HT2 := Lib.hid (show _ ∧ _ ∧ _ ∧ _ from ⟨blk_alloc (blk_alloc HB0.out (.cells cs 60)) (.cells (lc (⟨i, i + 1, x.r, x.a⟩ : Ln)) 57), blk_alloc (blk_alloc HB1.out (.cells cs 60)) (.cells (lc (⟨i, i + 1, x.r, x.a⟩ : Ln)) 57),
        heap_alloc_new (W.alloc (.cells cs 60)) (.cells (lc (⟨i, i + 1, x.r, x.a⟩ : Ln)) 57), (HT.out.2.2.alloc HT.out.2.2.size (.cells cs 60)).alloc (Nat.le_trans HT.out.2.2.size (by simp)) (.cells (lc (⟨i, i + 1, x.r, x.a⟩ : Ln)) 57)⟩)
      simp only [World.size_alloc] at HT2
      generalize (W.alloc (.cells cs 60)).alloc (.cells (lc (⟨i, i + 1, x.r, x.a⟩ : Ln)) 57) = W2 at HT2 ⊢
      generalize W.heap.size + 1 = lb at HT2 ⊢
      have HQ := Lib.hid (rtook_end HR.out hk HN.out HX.out HT2.out)
      go_wp2_with (first
        | ((with_reducible refine wpList_load_row rfl 57 _ rfl lb ?_ 57 (lc (⟨i, i + 1, x.r, x.a⟩ : Ln)) (0, 0) _ HT2.out.2.2.1 Try.underlying57 ?_ ?_ ?_); rfl; rfl; kernel_rfl)
        | ((with_reducible refine rows.wpList_store_mid rfl 57 _ _ rfl w.heap.size (7 + k * 4) (lc (⟨i, i + 1, x.r, x.a⟩ : Ln)).toList ?_ ?_ 60 cs HT2.out.1 ?_ ?_ ?_ ?_); rfl; rfl; kernel_rfl; (simp [HR.out.size]; omega); exact lc_one _)
        | ((with_reducible refine wpList_load_row rfl 60 _ rfl w.heap.size ?_ 60 (lput cs k (⟨i, i + 1, x.r, x.a⟩ : Ln)) (0, 0) _ (setRow_heap _ _ _ _ _ _ HT2.out.1) Try.underlying60 ?_ HQ.out.1 ?_); rfl; rfl)
        | ((with_reducible refine wpList_store_row rfl 60 _ _ rfl (w.heap.size + 1) (lput cs k (⟨i, i + 1, x.r, x.a⟩ : Ln)) ?_ ?_ 60 Z60 HQ.out.2.1 HQ.out.1 HQ.out.2.2.1 HQ.out.2.2.2.1 ?_); rfl; rfl))
      rw [show decide (x.m < i) = true from by simpa using c1]
      exact ret_row Try.results53 rfl rfl (setRow_heap _ _ _ _ _ _ HQ.out.2.1) (HQ.out.2.2.1.symm.trans Z60_size) rfl (HQ.out.2.2.2.2 true).1
  · rcases Int.lt_or_le i x.n with c2 | c2
    · have HX := Lib.hid (show tookx x i = (⟨x.m, x.n, x.r, x.a⟩ : Ln) by unfold tookx; rw [if_neg (by omega), if_neg (by omega)])
      go_upto_region 9 with (fail)
      have HT2 := Lib.hid (show _ ∧ _ ∧ _ ∧ _ from ⟨blk_alloc (blk_alloc HB0.out (.cells cs 60)) (.cells (lc (⟨x.m, x.n, x.r, x.a⟩ : Ln)) 57), blk_alloc (blk_alloc HB1.out (.cells cs 60)) (.cells (lc (⟨x.m, x.n, x.r, x.a⟩ : Ln)) 57),
        heap_alloc_new (W.alloc (.cells cs 60)) (.cells (lc (⟨x.m, x.n, x.r, x.a⟩ : Ln)) 57), (HT.out.2.2.alloc HT.out.2.2.size (.cells cs 60)).alloc (Nat.le_trans HT.out.2.2.size (by simp)) (.cells (lc (⟨x.m, x.n, x.r, x.a⟩ : Ln)) 57)⟩)
      simp only [World.size_alloc] at HT2
      generalize (W.alloc (.cells cs 60)).alloc (.cells (lc (⟨x.m, x.n, x.r, x.a⟩ : Ln)) 57) = W2 at HT2 ⊢
      generalize W.heap.size + 1 = lb at HT2 ⊢
      have HQ := Lib.hid (rtook_end HR.out hk HN.out HX.out HT2.out)
      go_wp2_with (first
        | ((with_reducible refine wpList_load_row rfl 57 _ rfl lb ?_ 57 (lc (⟨x.m, x.n, x.r, x.a⟩ : Ln)) (0, 0) _ HT2.out.2.2.1 Try.underlying57 ?_ ?_ ?_); rfl; rfl; kernel_rfl)
        | ((with_reducible refine rows.wpList_store_mid rfl 57 _ _ rfl w.heap.size (7 + k * 4) (lc (⟨x.m, x.n, x.r, x.a⟩ : Ln)).toList ?_ ?_ 60 cs HT2.out.1 ?_ ?_ ?_ ?_); rfl; rfl; kernel_rfl; (simp [HR.out.size]; omega); exact lc_one _)
        | ((with_reducible refine wpList_load_row rfl 60 _ rfl w.heap.size ?_ 60 (lput cs k (⟨x.m, x.n, x.r, x.a⟩ : Ln)) (0, 0) _ (setRow_heap _ _ _ _ _ _ HT2.out.1) Try.underlying60 ?_ HQ.out.1 ?_); rfl; rfl)
        | ((with_reducible refine wpList_store_row rfl 60 _ _ rfl (w.heap.size + 1) (lput cs k (⟨x.m, x.n, x.r, x.a⟩ : Ln)) ?_ ?_ 60 Z60 HQ.out.2.1 HQ.out.1 HQ.out.2.2.1 HQ.out.2.2.2.1 ?_); rfl; rfl))
      rw [show decide (x.m < i) = false from by simpa using c1]
      exact ret_row Try.results53 rfl rfl (setRow_heap _ _ _ _ _ _ HQ.out.2.1) (HQ.out.2.2.1.symm.trans Z60_size) rfl (HQ.out.2.2.2.2 false).1
    · exact absurd hok.mn (by omega)
set_option maxRecDepth 100000 in
set_option maxHeartbeats 400000 in
theorem rrefused_none (w : World) (cs : Array Value) (t : Tb) (h : RT cs t) (n i : Int) (hn : t n = none) : Calls Try.prog 50 #[.agg cs, .int .i64 n, .int .u64 i] w (TabBool w t false) := by
  have HI := fun w => Lib.hid (is_ok w cs t h n)
  rw [hn] at HI
  have hi := info60 h.size
  have hz := zero60
  have HR := Lib.hid h
  have HT := Lib.hid (two_blocks w cs)
  clear h hn
  go_enter Try.func50, Try.ntmps50
  go_upto_region 1 with (fail)
  generalize (w.alloc (.cells cs 60)).alloc (.cells Z60 60) = W at HT ⊢
  have HB0 := Lib.hid HT.out.1
  have HB1 := Lib.hid HT.out.2.1
  have hlt := blk_lt HT.out.2.1
  go_wp2_with (first
    | (refine wpList_load_row rfl 60 _ rfl w.heap.size rfl 60 cs (0, 0) _ (by first | exact HB0.out | exact blk_alloc HB0.out _) Try.underlying60 rfl hi ?_)
    | (refine wpList_store_row rfl 60 _ _ rfl (w.heap.size + 1) cs rfl rfl 60 Z60 (by first | exact HB1.out | exact blk_alloc HB1.out _) hi (by rw [Z60_size, HR.out.size]) HR.out.one ?_)
    | (go_at_call 73; refine (HI _).out.mono ?_; rintro e w1 ⟨rfl, rfl⟩))
  exact ret_row Try.results50 rfl rfl (setRow_heap _ _ _ _ _ _ (blk_alloc HB1.out _)) HR.out.size rfl ⟨cs, rfl, HR.out, setRow_below (HT.out.2.2.alloc HT.out.2.2.size _) (by omega)⟩
set_option maxRecDepth 100000 in
set_option maxHeartbeats 400000 in
theorem rheard_none (w : World) (cs : Array Value) (t : Tb) (h : RT cs t) (n i : Int) (hn : t n = none) : Calls Try.prog 51 #[.agg cs, .int .i64 n, .int .u64 i] w (TabBool w t false) := by
  have HI := fun w => Lib.hid (is_ok w cs t h n)
  rw [hn] at HI
  have hi := info60 h.size
  have hz := zero60
  have HR := Lib.hid h
  have HT := Lib.hid (two_blocks w cs)
  clear h hn
  go_enter Try.func51, Try.ntmps51
  go_upto_region 1 with (fail)
  generalize (w.alloc (.cells cs 60)).alloc (.cells Z60 60) = W at HT ⊢
  have HB0 := Lib.hid HT.out.1
  have HB1 := Lib.hid HT.out.2.1
  have hlt := blk_lt HT.out.2.1
  go_wp2_with (first
    | (refine wpList_load_row rfl 60 _ rfl w.heap.size rfl 60 cs (0, 0) _ (by first | exact HB0.out | exact blk_alloc HB0.out _) Try.underlying60 rfl hi ?_)
    | (refine wpList_store_row rfl 60 _ _ rfl (w.heap.size + 1) cs rfl rfl 60 Z60 (by first | exact HB1.out | exact blk_alloc HB1.out _) hi (by rw [Z60_size, HR.out.size]) HR.out.one ?_)
    | (go_at_call 73; refine (HI _).out.mono ?_; rintro e w1 ⟨rfl, rfl⟩))
  exact ret_row Try.results51 rfl rfl (setRow_heap _ _ _ _ _ _ (blk_alloc HB1.out _)) HR.out.size rfl ⟨cs, rfl, HR.out, setRow_below (HT.out.2.2.alloc HT.out.2.2.size _) (by omega)⟩
end Go.Proofs.Ytibdjmmhdggpfaa

/-
  The document's Refused and Heard.
-/
namespace Go.Proofs.Ytibdjmmhdggpfaa
set_option linter.unusedVariables false
set_option linter.unusedSimpArgs false
open Go.Proofs.YtibdjmmhdggpfaaW.PrintLast Go.RowKit Go.Maps Go.Proofs.YtibdjmmhdggpfaaW.PrintWords Go.Proofs.YtibdjmmhdggpfaaW.PrintMore Go.Proofs.Ytibdjmmhdggpfaa.PPollPlays Go.Proofs.Ytibdjmmhdggpfaa.pure Go.Proofs.Ytibdjmmhdggpfaa.fmap

theorem if_wanted {c : Bool} {p q : Prop} (h : c = true) (hp : p) : if c = true then p else q := by
  rw [if_pos h]
  exact hp
/-- While Refused ends: its table's row, its line, and the row that it hands back. -/
structure RowS (g lb : Nat) (cs : Array Value) (q : Ln) (W : World) : Prop where
  a : W.heap[g]? = some (.cells cs 60 (0, 0))
  b : W.heap[lb]? = some (.cells (lc q) 57 (0, 0))
  c : ∃ old, W.heap[g + 1]? = some (.cells old 60 (0, 0)) ∧ old.size = 35
theorem RowS.load {g lb : Nat} {cs : Array Value} {q : Ln} {W : World} (h : RowS g lb cs q W) (hi : (Try.prog.info? 60).map (·.size) = some cs.size) : (Instr.loadAt 60 (.pointer (some ⟨g, 0, none⟩))).run Try.prog W = .ok (.agg cs) W := by
  simp only [Instr.loadAt, Instr.sureAddr, Sem.run_bind, Sem.run_pure, Result.andThen_ok]
  exact run_loadVar_row W g 60 60 cs (0, 0) _ h.a Try.underlying60 rfl hi
theorem RowS.store {g lb : Nat} {cs : Array Value} {q : Ln} {W : World} (h : RowS g lb cs q W) (hi : (Try.prog.info? 60).map (·.size) = some cs.size) (h1 : cs.all (·.oneCell') = true) :
    (Instr.storeAt 60 (.pointer (some ⟨g + 1, 0, none⟩)) (.agg cs)).run Try.prog W = .ok () (W.setRow (g + 1) cs) := by
  obtain ⟨old, ho, hs⟩ := h.c
  have e : (Try.prog.info? 60).map (·.size) = some 35 := by kernel_rfl
  have hcs : cs.size = 35 := by rw [hi] at e; exact Option.some.inj e
  simp only [Instr.storeAt, Instr.sureAddr, Sem.run_bind, Sem.run_pure, Result.andThen_ok]
  exact run_storeVar_row W (g + 1) 60 60 old cs ho hi (by rw [hs, hcs]) h1
theorem RowS.exec {g lb : Nat} {cs : Array Value} {q : Ln} {W : World} (h : RowS g lb cs q W) (hi : (Try.prog.info? 60).map (·.size) = some cs.size) {o : Oper} {ev : Operand → Value} {x : Operand} (ho : o.op = .load 60 x) (hx : ev x = .pointer (some ⟨g, 0, none⟩)) : (execOp ev o).run Try.prog W = .ok (.value (.agg cs)) W := by
  unfold execOp
  simp only [ho, hx, Instr.loadAt, Instr.sureAddr, Sem.run_bind, Sem.run_pure, Result.andThen_ok, run_loadVar_row W g 60 60 cs (0, 0) _ h.a Try.underlying60 rfl hi]
theorem RowS.load2 {g lb : Nat} {cs : Array Value} {q : Ln} {W : World} (h : RowS g lb cs q W) (hi : (Try.prog.info? 60).map (·.size) = some cs.size) : (loadCellsFrom ⟨g, 0, none⟩ 0 35 #[]).run Try.prog W = .ok cs W := by
  have e : (Try.prog.info? 60).map (·.size) = some 35 := by kernel_rfl
  have hcs : cs.size = 35 := by rw [hi] at e; exact Option.some.inj e
  have := run_loadCells_list (P := Try.prog) W ⟨g, 0, none⟩ cs.toList (fun j v hv => by
    have hadd : (⟨g, 0, none⟩ : Addr).add j = ⟨g, j, none⟩ := by unfold Addr.add; split <;> simp_all
    rw [hadd, blk_cell h.a]
    simpa using hv)
  simpa [loadCells, hcs] using this
theorem RowS.store2 {g lb : Nat} {cs : Array Value} {q : Ln} {W : World} (h : RowS g lb cs q W) (hi : (Try.prog.info? 60).map (·.size) = some cs.size) (h1 : cs.all (·.oneCell') = true) :
    (storeCells ⟨g + 1, 0, none⟩ cs.toList 0).run Try.prog W = .ok () (W.setRow (g + 1) cs) := by
  obtain ⟨old, ho, hs⟩ := h.c
  have e : (Try.prog.info? 60).map (·.size) = some 35 := by kernel_rfl
  have hcs : cs.size = 35 := by rw [hi] at e; exact Option.some.inj e
  have := run_storeCells_from (P := Try.prog) (g + 1) 60 cs.toList 0 old W ho (by simp; omega) (fun v hv => (Array.all_eq_true_iff_forall_mem.1 h1) v (by simpa using hv))
  simpa using this
theorem RowS.cell {g lb : Nat} {cs : Array Value} {q : Ln} {W : World} (h : RowS g lb cs q W) : W.cell? ⟨lb, 1, none⟩ = some (.int .u64 q.n) := (blk_cell h.b 1).trans rfl
theorem RowS.put {g lb : Nat} {cs : Array Value} {q : Ln} {W : World} (h : RowS g lb cs q W) (hl : lb ≠ g + 1) (hs : cs.size = 35) : RowS g lb cs q (W.setRow (g + 1) cs) := by
  obtain ⟨old, ho, _⟩ := h.c
  exact ⟨(setRow_other _ _ _ _ (by omega)).trans h.a, (setRow_other _ _ _ _ hl).trans h.b, cs, setRow_heap _ _ _ _ _ _ ho, hs⟩
set_option maxRecDepth 100000 in
set_option maxHeartbeats 2000000 in
theorem rrefused_some (w : World) (cs : Array Value) (t : Tb) (h : RT cs t) (k : Nat) (hk : k < 7) (i : Int) (hwi : (Lit.int .u64 i).wf = true) (x : Ln) (hn : t k = some x) (hok : x.Ok) (b : Bool) (hb : b = decide ((refx x i).n ≠ x.n)) : Calls Try.prog 50 #[.agg cs, .int .i64 k, .int .u64 i] w (TabBool w (tput t k (refx x i)) b) := by
  have HI := fun w => Lib.hid (is_ok w cs t h k)
  rw [hn] at HI
  have hi := info60 h.size
  have hz := zero60
  have HR := Lib.hid h
  have HT := Lib.hid (two_blocks w cs)
  have HL := Lib.hid (h.line hk hn)
  have HN := Lib.hid hn
  have hm1 := wrap_u hok.m0 hok.m1
  have hu := Try.underlying57
  have HBB := Lib.hid hb
  clear h hn hb
  go_enter Try.func50, Try.ntmps50
  go_upto_region 1 with (fail)
  generalize (w.alloc (.cells cs 60)).alloc (.cells Z60 60) = W at HT ⊢
  have HB0 := Lib.hid HT.out.1
  have HB1 := Lib.hid HT.out.2.1
  have hlt := blk_lt HT.out.2.1
  have hlt0 := blk_lt HT.out.1
  go_upto_region 4 with (first
    | ((with_reducible refine wpList_load_row rfl 60 _ rfl w.heap.size ?_ 60 cs (0, 0) _ ?_ Try.underlying60 ?_ hi ?_); rfl; (first | exact HB0.out | exact blk_alloc HB0.out _); rfl)
    | ((with_reducible refine rows.wpList_load_mid rfl 57 _ rfl w.heap.size (7 + k * 4) [.int .u64 x.m, .int .u64 x.n, .int .u64 x.r, .bool x.a] ?_ 60 cs (0, 0) _ (blk_alloc HB0.out _) HL.out.all Try.underlying57 ?_ ?_ ?_); rfl; rfl; kernel_rfl)
    | (go_at_call 73; refine (HI _).out.mono ?_; rintro e w1 ⟨rfl, rfl⟩))
  by_cases c1 : i < x.n
  · have hi1 := wrap_i hwi c1 hok.n1
    by_cases c2' : i + 1 ≤ x.m
    · skip
      have HX := Lib.hid (show refx x i = (⟨x.m, x.m + 1, x.r, x.a⟩ : Ln) by unfold refx; rw [if_pos c1, if_neg (by omega)])
      go_upto_region 9 with (fail)
      have HT2 := Lib.hid (show _ ∧ _ ∧ _ ∧ _ from ⟨blk_alloc (blk_alloc HB0.out (.cells cs 60)) (.cells (lc (⟨x.m, x.m + 1, x.r, x.a⟩ : Ln)) 57), blk_alloc (blk_alloc HB1.out (.cells cs 60)) (.cells (lc (⟨x.m, x.m + 1, x.r, x.a⟩ : Ln)) 57),
        heap_alloc_new (W.alloc (.cells cs 60)) (.cells (lc (⟨x.m, x.m + 1, x.r, x.a⟩ : Ln)) 57), (HT.out.2.2.alloc HT.out.2.2.size (.cells cs 60)).alloc (Nat.le_trans HT.out.2.2.size (by simp)) (.cells (lc (⟨x.m, x.m + 1, x.r, x.a⟩ : Ln)) 57)⟩)
      simp only [World.size_alloc] at HT2
      generalize (W.alloc (.cells cs 60)).alloc (.cells (lc (⟨x.m, x.m + 1, x.r, x.a⟩ : Ln)) 57) = W2 at HT2 ⊢
      have hlb : W.heap.size + 1 ≠ w.heap.size ∧ W.heap.size + 1 ≠ w.heap.size + 1 := by omega
      generalize W.heap.size + 1 = lb at HT2 hlb ⊢
      have HQ := Lib.hid (rtook_end HR.out hk HN.out HX.out HT2.out)
      go_upto_region 10 with (first
        | ((with_reducible refine wpList_load_row rfl 57 _ rfl lb ?_ 57 (lc (⟨x.m, x.m + 1, x.r, x.a⟩ : Ln)) (0, 0) _ HT2.out.2.2.1 Try.underlying57 ?_ ?_ ?_); rfl; rfl; kernel_rfl)
        | ((with_reducible refine rows.wpList_store_mid rfl 57 _ _ rfl w.heap.size (7 + k * 4) (lc (⟨x.m, x.m + 1, x.r, x.a⟩ : Ln)).toList ?_ ?_ 60 cs HT2.out.1 ?_ ?_ ?_ ?_); rfl; rfl; kernel_rfl; (simp [HR.out.size]; omega); exact lc_one _))
      have HT3 := Lib.hid (show (W2.setRow w.heap.size (lput cs k (⟨x.m, x.m + 1, x.r, x.a⟩ : Ln))).heap[w.heap.size]? = some (.cells (lput cs k (⟨x.m, x.m + 1, x.r, x.a⟩ : Ln)) 60 (0, 0)) ∧ (W2.setRow w.heap.size (lput cs k (⟨x.m, x.m + 1, x.r, x.a⟩ : Ln))).heap[w.heap.size + 1]? = some (.cells Z60 60 (0, 0)) ∧ (W2.setRow w.heap.size (lput cs k (⟨x.m, x.m + 1, x.r, x.a⟩ : Ln))).heap[lb]? = some (.cells (lc (⟨x.m, x.m + 1, x.r, x.a⟩ : Ln)) 57 (0, 0)) from
        ⟨setRow_heap _ _ _ _ _ _ HT2.out.1, HQ.out.2.1, (setRow_other _ _ _ _ hlb.1).trans HT2.out.2.2.1⟩)
      have HZ := Lib.hid HQ.out.2.2
      generalize (W2.setRow w.heap.size (lput cs k (⟨x.m, x.m + 1, x.r, x.a⟩ : Ln))) = W3 at HT3 HZ ⊢
      have HI2 := Lib.hid HQ.out.1
      clear HQ
      generalize lput cs k (⟨x.m, x.m + 1, x.r, x.a⟩ : Ln) = c2 at HT3 HZ HI2 ⊢
      have HC2 := Lib.hid (fun b => (HZ.out.2.2 b).2)
      have HS0 : RowS w.heap.size lb c2 (⟨x.m, x.m + 1, x.r, x.a⟩ : Ln) W3.drew := ⟨HT3.out.1, HT3.out.2.2, ⟨Z60, HT3.out.2.1, Z60_size⟩⟩
      have HK1 := Lib.hid (HS0.put hlb.2 (HZ.out.1.symm.trans Z60_size))
      have HB3 := Lib.hid (show W3.drew.heap[w.heap.size + 1]? = some (.cells Z60 60 (0, 0)) from HT3.out.2.1)
      refine start_ (n := 7) (S := RowS w.heap.size lb c2 (⟨x.m, x.m + 1, x.r, x.a⟩ : Ln)) (ds := []) #[false, false, false, false, false, false, false] (by kernel_rfl) rfl rfl HS0 (fun hHeld => ?_)
      generalize W3.drew = W4 at HS0 HK1 HB3 hHeld HC2 ⊢
      refine pure_ (i := 1) (N := some 42) (v := .pointer (some ⟨lb, 1, none⟩)) (a' := ?_) #[false, true, false, false, false, false, false] rfl rfl (by kernel_rfl) (fun _ _ _ h => h) (Or.inl ⟨rfl, fun w' => by kernel_rfl⟩) ?_ ?_
      rotate_left
      · simp only [Act.put, List.setIfInBounds_toArray, List.set_cons_zero, List.set_cons_succ]
        rfl
      refine take_ (i := 2) (N := some 43) (v := .int .u64 (x.m + 1)) (a' := ?_) #[false, true, true, false, false, false, false] rfl rfl (by kernel_rfl) (fun _ _ _ h => h) (Or.inl ⟨rfl, fun w' h => by have hc := h.cell; go_simp⟩) hHeld ?_ ?_
      rotate_left
      · simp only [Act.put, List.setIfInBounds_toArray, List.set_cons_zero, List.set_cons_succ]
        rfl
      refine pure_ (i := 3) (N := some 44) (v := .int .u64 x.n) (a' := ?_) #[false, true, true, true, false, false, false] rfl rfl (by kernel_rfl) (fun _ _ _ h => h) (Or.inl ⟨rfl, fun w' => by kernel_rfl⟩) ?_ ?_
      rotate_left
      · simp only [Act.put, List.setIfInBounds_toArray, List.set_cons_zero, List.set_cons_succ]
        rfl
      refine pure_ (i := 4) (N := some 45) (v := .bool ((x.m + 1) != x.n)) (a' := ?_) #[false, true, true, true, true, false, false] rfl rfl (by kernel_rfl) (fun _ _ _ h => h) (Or.inl ⟨rfl, fun w' => by kernel_rfl⟩) ?_ ?_
      rotate_left
      · simp only [Act.put, List.setIfInBounds_toArray, List.set_cons_zero, List.set_cons_succ]
        rfl
      refine take_ (i := 0) (N := some 41) (v := .agg c2) (a' := ?_) #[true, true, true, true, true, false, false] rfl rfl (by kernel_rfl) (fun _ _ _ h => h) (Or.inl ⟨rfl, fun w' h => h.exec HI2.out rfl rfl⟩) hHeld ?_ ?_
      rotate_left
      · simp only [Act.put, List.setIfInBounds_toArray, List.set_cons_zero, List.set_cons_succ]
        rfl
      refine one_ (i := 5) (N := none) #[true, true, true, true, true, true, false] rfl rfl (by kernel_rfl) (by simp) (fun K hK => ?_)
      refine if_wanted rfl (wp_store_row 60 _ _ rfl (w.heap.size + 1) c2 rfl rfl 60 Z60 HB3.out HI2.out HZ.out.1 HZ.out.2.1 (hK.out _ _ HK1.out (fun _ => ?_)))
      clear hK K
      refine norm_ (a' := ?_) ?_ ?_
      rotate_left
      · simp only [Act.put, List.setIfInBounds_toArray, List.set_cons_zero, List.set_cons_succ]
        rfl
      refine pure_ (i := 6) (N := some 7) (v := .bool ((x.m + 1) != x.n)) (a' := ?_) #[true, true, true, true, true, true, true] rfl rfl (by kernel_rfl) (fun _ _ _ h => h) (Or.inl ⟨rfl, fun w' => by kernel_rfl⟩) ?_ ?_
      rotate_left
      · simp only [Act.put, List.setIfInBounds_toArray, List.set_cons_zero, List.set_cons_succ]
        rfl
      refine done_ (by kernel_rfl) ?_
      go_wp2
      have hbb : b = ((x.m + 1) != x.n) := by
        rw [HBB.out, HX.out]
        rw [Bool.eq_iff_iff]
        simp
      subst hbb
      exact ret_row Try.results50 rfl rfl (setRow_heap _ _ _ _ _ _ HB3.out) (HZ.out.1.symm.trans Z60_size) rfl (HC2.out _)
    · have c3 : x.m < i + 1 := by omega
      clear c2'
      have HX := Lib.hid (show refx x i = (⟨x.m, i + 1, x.r, x.a⟩ : Ln) by unfold refx; rw [if_pos c1, if_pos (by omega)])
      go_upto_region 9 with (fail)
      have HT2 := Lib.hid (show _ ∧ _ ∧ _ ∧ _ from ⟨blk_alloc (blk_alloc HB0.out (.cells cs 60)) (.cells (lc (⟨x.m, i + 1, x.r, x.a⟩ : Ln)) 57), blk_alloc (blk_alloc HB1.out (.cells cs 60)) (.cells (lc (⟨x.m, i + 1, x.r, x.a⟩ : Ln)) 57),
        heap_alloc_new (W.alloc (.cells cs 60)) (.cells (lc (⟨x.m, i + 1, x.r, x.a⟩ : Ln)) 57), (HT.out.2.2.alloc HT.out.2.2.size (.cells cs 60)).alloc (Nat.le_trans HT.out.2.2.size (by simp)) (.cells (lc (⟨x.m, i + 1, x.r, x.a⟩ : Ln)) 57)⟩)
      simp only [World.size_alloc] at HT2
      generalize (W.alloc (.cells cs 60)).alloc (.cells (lc (⟨x.m, i + 1, x.r, x.a⟩ : Ln)) 57) = W2 at HT2 ⊢
      have hlb : W.heap.size + 1 ≠ w.heap.size ∧ W.heap.size + 1 ≠ w.heap.size + 1 := by omega
      generalize W.heap.size + 1 = lb at HT2 hlb ⊢
      have HQ := Lib.hid (rtook_end HR.out hk HN.out HX.out HT2.out)
      go_upto_region 10 with (first
        | ((with_reducible refine wpList_load_row rfl 57 _ rfl lb ?_ 57 (lc (⟨x.m, i + 1, x.r, x.a⟩ : Ln)) (0, 0) _ HT2.out.2.2.1 Try.underlying57 ?_ ?_ ?_); rfl; rfl; kernel_rfl)
        | ((with_reducible refine rows.wpList_store_mid rfl 57 _ _ rfl w.heap.size (7 + k * 4) (lc (⟨x.m, i + 1, x.r, x.a⟩ : Ln)).toList ?_ ?_ 60 cs HT2.out.1 ?_ ?_ ?_ ?_); rfl; rfl; kernel_rfl; (simp [HR.out.size]; omega); exact lc_one _))
      have HT3 := Lib.hid (show (W2.setRow w.heap.size (lput cs k (⟨x.m, i + 1, x.r, x.a⟩ : Ln))).heap[w.heap.size]? = some (.cells (lput cs k (⟨x.m, i + 1, x.r, x.a⟩ : Ln)) 60 (0, 0)) ∧ (W2.setRow w.heap.size (lput cs k (⟨x.m, i + 1, x.r, x.a⟩ : Ln))).heap[w.heap.size + 1]? = some (.cells Z60 60 (0, 0)) ∧ (W2.setRow w.heap.size (lput cs k (⟨x.m, i + 1, x.r, x.a⟩ : Ln))).heap[lb]? = some (.cells (lc (⟨x.m, i + 1, x.r, x.a⟩ : Ln)) 57 (0, 0)) from
        ⟨setRow_heap _ _ _ _ _ _ HT2.out.1, HQ.out.2.1, (setRow_other _ _ _ _ hlb.1).trans HT2.out.2.2.1⟩)
      have HZ := Lib.hid HQ.out.2.2
      generalize (W2.setRow w.heap.size (lput cs k (⟨x.m, i + 1, x.r, x.a⟩ : Ln))) = W3 at HT3 HZ ⊢
      have HI2 := Lib.hid HQ.out.1
      clear HQ
      generalize lput cs k (⟨x.m, i + 1, x.r, x.a⟩ : Ln) = c2 at HT3 HZ HI2 ⊢
      have HC2 := Lib.hid (fun b => (HZ.out.2.2 b).2)
      have HS0 : RowS w.heap.size lb c2 (⟨x.m, i + 1, x.r, x.a⟩ : Ln) W3.drew := ⟨HT3.out.1, HT3.out.2.2, ⟨Z60, HT3.out.2.1, Z60_size⟩⟩
      have HK1 := Lib.hid (HS0.put hlb.2 (HZ.out.1.symm.trans Z60_size))
      have HB3 := Lib.hid (show W3.drew.heap[w.heap.size + 1]? = some (.cells Z60 60 (0, 0)) from HT3.out.2.1)
      refine start_ (n := 7) (S := RowS w.heap.size lb c2 (⟨x.m, i + 1, x.r, x.a⟩ : Ln)) (ds := []) #[false, false, false, false, false, false, false] (by kernel_rfl) rfl rfl HS0 (fun hHeld => ?_)
      generalize W3.drew = W4 at HS0 HK1 HB3 hHeld HC2 ⊢
      refine pure_ (i := 1) (N := some 42) (v := .pointer (some ⟨lb, 1, none⟩)) (a' := ?_) #[false, true, false, false, false, false, false] rfl rfl (by kernel_rfl) (fun _ _ _ h => h) (Or.inl ⟨rfl, fun w' => by kernel_rfl⟩) ?_ ?_
      rotate_left
      · simp only [Act.put, List.setIfInBounds_toArray, List.set_cons_zero, List.set_cons_succ]
        rfl
      refine take_ (i := 2) (N := some 43) (v := .int .u64 (i + 1)) (a' := ?_) #[false, true, true, false, false, false, false] rfl rfl (by kernel_rfl) (fun _ _ _ h => h) (Or.inl ⟨rfl, fun w' h => by have hc := h.cell; go_simp⟩) hHeld ?_ ?_
      rotate_left
      · simp only [Act.put, List.setIfInBounds_toArray, List.set_cons_zero, List.set_cons_succ]
        rfl
      refine pure_ (i := 3) (N := some 44) (v := .int .u64 x.n) (a' := ?_) #[false, true, true, true, false, false, false] rfl rfl (by kernel_rfl) (fun _ _ _ h => h) (Or.inl ⟨rfl, fun w' => by kernel_rfl⟩) ?_ ?_
      rotate_left
      · simp only [Act.put, List.setIfInBounds_toArray, List.set_cons_zero, List.set_cons_succ]
        rfl
      refine pure_ (i := 4) (N := some 45) (v := .bool ((i + 1) != x.n)) (a' := ?_) #[false, true, true, true, true, false, false] rfl rfl (by kernel_rfl) (fun _ _ _ h => h) (Or.inl ⟨rfl, fun w' => by kernel_rfl⟩) ?_ ?_
      rotate_left
      · simp only [Act.put, List.setIfInBounds_toArray, List.set_cons_zero, List.set_cons_succ]
        rfl
      refine take_ (i := 0) (N := some 41) (v := .agg c2) (a' := ?_) #[true, true, true, true, true, false, false] rfl rfl (by kernel_rfl) (fun _ _ _ h => h) (Or.inl ⟨rfl, fun w' h => h.exec HI2.out rfl rfl⟩) hHeld ?_ ?_
      rotate_left
      · simp only [Act.put, List.setIfInBounds_toArray, List.set_cons_zero, List.set_cons_succ]
        rfl
      refine one_ (i := 5) (N := none) #[true, true, true, true, true, true, false] rfl rfl (by kernel_rfl) (by simp) (fun K hK => ?_)
      refine if_wanted rfl (wp_store_row 60 _ _ rfl (w.heap.size + 1) c2 rfl rfl 60 Z60 HB3.out HI2.out HZ.out.1 HZ.out.2.1 (hK.out _ _ HK1.out (fun _ => ?_)))
      clear hK K
      refine norm_ (a' := ?_) ?_ ?_
      rotate_left
      · simp only [Act.put, List.setIfInBounds_toArray, List.set_cons_zero, List.set_cons_succ]
        rfl
      refine pure_ (i := 6) (N := some 7) (v := .bool ((i + 1) != x.n)) (a' := ?_) #[true, true, true, true, true, true, true] rfl rfl (by kernel_rfl) (fun _ _ _ h => h) (Or.inl ⟨rfl, fun w' => by kernel_rfl⟩) ?_ ?_
      rotate_left
      · simp only [Act.put, List.setIfInBounds_toArray, List.set_cons_zero, List.set_cons_succ]
        rfl
      refine done_ (by kernel_rfl) ?_
      go_wp2
      have hbb : b = ((i + 1) != x.n) := by
        rw [HBB.out, HX.out]
        rw [Bool.eq_iff_iff]
        simp
      subst hbb
      exact ret_row Try.results50 rfl rfl (setRow_heap _ _ _ _ _ _ HB3.out) (HZ.out.1.symm.trans Z60_size) rfl (HC2.out _)
  · have c3 : x.m < x.n := hok.mn
    have c4 : x.n ≤ i := by omega
    clear c1
    have HX := Lib.hid (show refx x i = (⟨x.m, x.n, x.r, x.a⟩ : Ln) by unfold refx; rw [if_neg (show ¬ i < x.n from by omega), if_pos (by omega)])
    go_upto_region 9 with (fail)
    have HT2 := Lib.hid (show _ ∧ _ ∧ _ ∧ _ from ⟨blk_alloc (blk_alloc HB0.out (.cells cs 60)) (.cells (lc (⟨x.m, x.n, x.r, x.a⟩ : Ln)) 57), blk_alloc (blk_alloc HB1.out (.cells cs 60)) (.cells (lc (⟨x.m, x.n, x.r, x.a⟩ : Ln)) 57),
      heap_alloc_new (W.alloc (.cells cs 60)) (.cells (lc (⟨x.m, x.n, x.r, x.a⟩ : Ln)) 57), (HT.out.2.2.alloc HT.out.2.2.size (.cells cs 60)).alloc (Nat.le_trans HT.out.2.2.size (by simp)) (.cells (lc (⟨x.m, x.n, x.r, x.a⟩ : Ln)) 57)⟩)
    simp only [World.size_alloc] at HT2
    generalize (W.alloc (.cells cs 60)).alloc (.cells (lc (⟨x.m, x.n, x.r, x.a⟩ : Ln)) 57) = W2 at HT2 ⊢
    have hlb : W.heap.size + 1 ≠ w.heap.size ∧ W.heap.size + 1 ≠ w.heap.size + 1 := by omega
    generalize W.heap.size + 1 = lb at HT2 hlb ⊢
    have HQ := Lib.hid (rtook_end HR.out hk HN.out HX.out HT2.out)
    go_upto_region 10 with (first
      | ((with_reducible refine wpList_load_row rfl 57 _ rfl lb ?_ 57 (lc (⟨x.m, x.n, x.r, x.a⟩ : Ln)) (0, 0) _ HT2.out.2.2.1 Try.underlying57 ?_ ?_ ?_); rfl; rfl; kernel_rfl)
      | ((with_reducible refine rows.wpList_store_mid rfl 57 _ _ rfl w.heap.size (7 + k * 4) (lc (⟨x.m, x.n, x.r, x.a⟩ : Ln)).toList ?_ ?_ 60 cs HT2.out.1 ?_ ?_ ?_ ?_); rfl; rfl; kernel_rfl; (simp [HR.out.size]; omega); exact lc_one _))
    have HT3 := Lib.hid (show (W2.setRow w.heap.size (lput cs k (⟨x.m, x.n, x.r, x.a⟩ : Ln))).heap[w.heap.size]? = some (.cells (lput cs k (⟨x.m, x.n, x.r, x.a⟩ : Ln)) 60 (0, 0)) ∧ (W2.setRow w.heap.size (lput cs k (⟨x.m, x.n, x.r, x.a⟩ : Ln))).heap[w.heap.size + 1]? = some (.cells Z60 60 (0, 0)) ∧ (W2.setRow w.heap.size (lput cs k (⟨x.m, x.n, x.r, x.a⟩ : Ln))).heap[lb]? = some (.cells (lc (⟨x.m, x.n, x.r, x.a⟩ : Ln)) 57 (0, 0)) from
      ⟨setRow_heap _ _ _ _ _ _ HT2.out.1, HQ.out.2.1, (setRow_other _ _ _ _ hlb.1).trans HT2.out.2.2.1⟩)
    have HZ := Lib.hid HQ.out.2.2
    generalize (W2.setRow w.heap.size (lput cs k (⟨x.m, x.n, x.r, x.a⟩ : Ln))) = W3 at HT3 HZ ⊢
    have HI2 := Lib.hid HQ.out.1
    clear HQ
    generalize lput cs k (⟨x.m, x.n, x.r, x.a⟩ : Ln) = c2 at HT3 HZ HI2 ⊢
    have HC2 := Lib.hid (fun b => (HZ.out.2.2 b).2)
    have HS0 : RowS w.heap.size lb c2 (⟨x.m, x.n, x.r, x.a⟩ : Ln) W3.drew := ⟨HT3.out.1, HT3.out.2.2, ⟨Z60, HT3.out.2.1, Z60_size⟩⟩
    have HK1 := Lib.hid (HS0.put hlb.2 (HZ.out.1.symm.trans Z60_size))
    have HB3 := Lib.hid (show W3.drew.heap[w.heap.size + 1]? = some (.cells Z60 60 (0, 0)) from HT3.out.2.1)
    refine start_ (n := 7) (S := RowS w.heap.size lb c2 (⟨x.m, x.n, x.r, x.a⟩ : Ln)) (ds := []) #[false, false, false, false, false, false, false] (by kernel_rfl) rfl rfl HS0 (fun hHeld => ?_)
    generalize W3.drew = W4 at HS0 HK1 HB3 hHeld HC2 ⊢
    refine pure_ (i := 1) (N := some 42) (v := .pointer (some ⟨lb, 1, none⟩)) (a' := ?_) #[false, true, false, false, false, false, false] rfl rfl (by kernel_rfl) (fun _ _ _ h => h) (Or.inl ⟨rfl, fun w' => by kernel_rfl⟩) ?_ ?_
    rotate_left
    · simp only [Act.put, List.setIfInBounds_toArray, List.set_cons_zero, List.set_cons_succ]
      rfl
    refine take_ (i := 2) (N := some 43) (v := .int .u64 (x.n)) (a' := ?_) #[false, true, true, false, false, false, false] rfl rfl (by kernel_rfl) (fun _ _ _ h => h) (Or.inl ⟨rfl, fun w' h => by have hc := h.cell; go_simp⟩) hHeld ?_ ?_
    rotate_left
    · simp only [Act.put, List.setIfInBounds_toArray, List.set_cons_zero, List.set_cons_succ]
      rfl
    refine pure_ (i := 3) (N := some 44) (v := .int .u64 x.n) (a' := ?_) #[false, true, true, true, false, false, false] rfl rfl (by kernel_rfl) (fun _ _ _ h => h) (Or.inl ⟨rfl, fun w' => by kernel_rfl⟩) ?_ ?_
    rotate_left
    · simp only [Act.put, List.setIfInBounds_toArray, List.set_cons_zero, List.set_cons_succ]
      rfl
    refine pure_ (i := 4) (N := some 45) (v := .bool ((x.n) != x.n)) (a' := ?_) #[false, true, true, true, true, false, false] rfl rfl (by kernel_rfl) (fun _ _ _ h => h) (Or.inl ⟨rfl, fun w' => by kernel_rfl⟩) ?_ ?_
    rotate_left
    · simp only [Act.put, List.setIfInBounds_toArray, List.set_cons_zero, List.set_cons_succ]
      rfl
    refine take_ (i := 0) (N := some 41) (v := .agg c2) (a' := ?_) #[true, true, true, true, true, false, false] rfl rfl (by kernel_rfl) (fun _ _ _ h => h) (Or.inl ⟨rfl, fun w' h => h.exec HI2.out rfl rfl⟩) hHeld ?_ ?_
    rotate_left
    · simp only [Act.put, List.setIfInBounds_toArray, List.set_cons_zero, List.set_cons_succ]
      rfl
    refine one_ (i := 5) (N := none) #[true, true, true, true, true, true, false] rfl rfl (by kernel_rfl) (by simp) (fun K hK => ?_)
    refine if_wanted rfl (wp_store_row 60 _ _ rfl (w.heap.size + 1) c2 rfl rfl 60 Z60 HB3.out HI2.out HZ.out.1 HZ.out.2.1 (hK.out _ _ HK1.out (fun _ => ?_)))
    clear hK K
    refine norm_ (a' := ?_) ?_ ?_
    rotate_left
    · simp only [Act.put, List.setIfInBounds_toArray, List.set_cons_zero, List.set_cons_succ]
      rfl
    refine pure_ (i := 6) (N := some 7) (v := .bool ((x.n) != x.n)) (a' := ?_) #[true, true, true, true, true, true, true] rfl rfl (by kernel_rfl) (fun _ _ _ h => h) (Or.inl ⟨rfl, fun w' => by kernel_rfl⟩) ?_ ?_
    rotate_left
    · simp only [Act.put, List.setIfInBounds_toArray, List.set_cons_zero, List.set_cons_succ]
      rfl
    refine done_ (by kernel_rfl) ?_
    go_wp2
    have hbb : b = false := by
      rw [HBB.out, HX.out]
      simp
    subst hbb
    exact ret_row Try.results50 rfl rfl (setRow_heap _ _ _ _ _ _ HB3.out) (HZ.out.1.symm.trans Z60_size) rfl (HC2.out _)
end Go.Proofs.Ytibdjmmhdggpfaa
