/-
  Tables that are nil, and tables that no call made.
-/
import Derived.Test.YtibdjmmhdggpfaaGLives
import Derived.Test.YtibdjmmhdggpfaaGNodes
import Derived.Shelf.SlIterI.Nil
import Derived.Laws.IdiomRangeMap
namespace Go.Proofs.Ytibdjmmhdggpfaa
set_option linter.unusedVariables false
set_option linter.unusedSimpArgs false
open Go.RowKit Go.Maps Go.Sort Go.Shelf Go.Proofs.YtibdjmmhdggpfaaW.PrintWords Go.Proofs.YtibdjmmhdggpfaaW.PrintMore Go.Proofs.Ytibdjmmhdggpfaa.PPollPlays Go.Proofs.Ytibdjmmhdggpfaa.pure Go.Proofs.Ytibdjmmhdggpfaa.fmap

def Void (w : World) (p : Value) : Prop := p = .pointer none ∨ ∃ b, p = .pointer (some ⟨b, 0, none⟩) ∧ w.cell? ⟨b, 0, none⟩ = some (.map none)
theorem Void.below {w w' : World} {p : Value} (h : Void w p) (hb : Below w.heap.size w w') : Void w' p := by
  rcases h with h | ⟨b, hp, hc⟩
  · exact .inl h
  · exact .inr ⟨b, hp, (hb.cell (p := ⟨b, 0, none⟩) (World.block_lt_of_cell? _ _ hc)).trans hc⟩

theorem look_nil75 (w : World) (n : Int) (hw : (Lit.int .i64 n).wf = true) : (Instr.lookup 75 (.map none) (.int .i64 n) false).run Try.prog w = .ok (.pointer none) w := by
  simpa using Maps.look_nil (w := w) false law3 Try.underlying75 (z := .pointer none) (by kernel_rfl) (keyOf_int_mk Try.underlying3 hw)
theorem eql_nil75 (w : World) : (Go.binOp BinOp.eql 75 (.map none) (.map none)).run Try.prog w = .ok (.bool true) w := by kernel_rfl
set_option maxRecDepth 100000 in
theorem v_line0 (w : World) (p : Value) (h : Void w p) (n : Int) (hw : (Lit.int .i64 n).wf = true) : Calls Try.prog 56 #[p, .int .i64 n] w fun e w' => e = .returned (.pointer none) ∧ w' = w := by
  have hu := Try.underlying75
  have hu2 := Try.underlying92
  have hk := fun w => look_nil75 w n hw
  rcases h with rfl | ⟨b, rfl, hc⟩
  · go_enter Try.func56, Try.ntmps56
    go_wp2
    go_ret
    exact ⟨rfl, rfl⟩
  · go_enter Try.func56, Try.ntmps56
    go_wp2
    go_ret
    exact ⟨rfl, rfl⟩
set_option maxRecDepth 100000 in
theorem v_line (w : World) (p : Value) (h : Void w p) (n : Int) (hw : (Lit.int .i64 n).wf = true) : Calls Try.prog 28 #[p, .int .i64 n] w fun e w' => e = .returned (.tuple #[lv z0, .bool false]) ∧ Below w.heap.size w w' := by
  have HL := fun w' hb => Lib.hid (v_line0 w' p (h.below hb) n hw)
  have hu := Try.underlying66
  clear h
  go_enter Try.func28, Try.ntmps28
  go_wp2_with (go_at_call 56; refine (HL _ (alloc_below _ _)).out.mono ?_; rintro e w1 ⟨rfl, rfl⟩)
  exact bodyPost_ret (v := .tuple #[lv z0, .bool false]) (by simp [results, Try.results28, go_sem]) rfl ⟨rfl, alloc_below _ _⟩
theorem v_lines {w : World} {p : Value} (h : Void w p) : LineAt w p (fun _ => none) := fun w' n hb hw => v_line w' p (h.below hb) n hw
set_option maxRecDepth 100000 in
theorem v_took (w : World) (p : Value) (h : Void w p) (n i : Int) (hw : (Lit.int .i64 n).wf = true) : Calls Try.prog 35 #[p, .int .i64 n, .int .u64 i] w fun e w' => e = .returned (.bool false) ∧ w' = w := by
  have HL := Lib.hid (v_line0 w p h n hw)
  clear h
  go_enter Try.func35, Try.ntmps35
  go_wp2_with (go_at_call 56; refine HL.out.mono ?_; rintro e w1 ⟨rfl, rfl⟩)
  go_ret
  exact ⟨rfl, rfl⟩
set_option maxRecDepth 100000 in
theorem v_refused (w : World) (p : Value) (h : Void w p) (n i : Int) (hw : (Lit.int .i64 n).wf = true) : Calls Try.prog 36 #[p, .int .i64 n, .int .u64 i] w fun e w' => e = .returned (.bool false) ∧ w' = w := by
  have HL := Lib.hid (v_line0 w p h n hw)
  clear h
  go_enter Try.func36, Try.ntmps36
  go_wp2_with (go_at_call 56; refine HL.out.mono ?_; rintro e w1 ⟨rfl, rfl⟩)
  go_ret
  exact ⟨rfl, rfl⟩
set_option maxRecDepth 100000 in
theorem v_heard (w : World) (p : Value) (h : Void w p) (n i : Int) (hw : (Lit.int .i64 n).wf = true) : Calls Try.prog 37 #[p, .int .i64 n, .int .u64 i] w fun e w' => e = .returned (.bool false) ∧ w' = w := by
  have HL := Lib.hid (v_line0 w p h n hw)
  clear h
  go_enter Try.func37, Try.ntmps37
  go_wp2_with (go_at_call 56; refine HL.out.mono ?_; rintro e w1 ⟨rfl, rfl⟩)
  go_ret
  exact ⟨rfl, rfl⟩
set_option maxRecDepth 100000 in
theorem v_set (w : World) (p : Value) (h : Void w p) (A : Option Addr) (n c : Nat) (i : Int) : Calls Try.prog 38 #[p, .slice A n c, .int .u64 i] w fun e w' => e = .returned (.bool false) ∧ Below w.heap.size w w' := by
  rcases h with rfl | ⟨b, rfl, hc⟩
  · go_enter Try.func38, Try.ntmps38
    go_wp2
    go_ret
    exact ⟨rfl, alloc_below _ _⟩
  · have hlt := World.block_lt_of_cell? _ _ hc
    have hq := eql_nil75
    go_enter Try.func38, Try.ntmps38
    go_wp2
    go_ret
    exact ⟨rfl, alloc_below _ _⟩
theorem sorted_nil (w : World) :
    Calls Try.prog 62 #[.func (.func 76) #[] #[.pointer (some ⟨w.heap.size, 0, none⟩)]] (w.alloc (.cells #[.map none] 75)) (SortedK (w.alloc (.cells #[.map none] 75)) (fun ss => ss = [])) := by
  have hseq : SeqGives Fence.wide 2 Try.prog 76 #[.pointer (some ⟨w.heap.size, 0, none⟩)] encZ (fun ss : List Int => ss = []) 0 (w.alloc (.cells #[.map none] 75)) :=
    AnyZI.keys_gives_nil (ρ := keysA_ren) { keysA with } Fence.wide _ trivial rfl w.heap.size _ (by simp) (by simp)
  have cS := AnyZI.sorted_in sortedA Fence.wide 5 trivial trivial trivial trivial rfl (by omega) (sortsA _) (enters_of Try.func72 (by kernel_rfl) rfl) 76 #[.pointer (some ⟨w.heap.size, 0, none⟩)] trivial (enters_of Try.func76 (by kernel_rfl) rfl) _ _ (by unfold maxLen; omega) (by omega) _ hseq
  change CallsIn _ _ Try.prog 62 _ _ _ at cS
  exact callsIn_wide.1 cS
set_option maxRecDepth 100000 in
theorem v_nodes (w : World) (p : Value) (h : Void w p) : Calls Try.prog 34 #[p] w fun e w' => e = .returned (.slice none 0 0) ∧ Below w.heap.size w w' := by
  have HS := Lib.hid (sorted_nil w)
  rcases h with rfl | ⟨b, rfl, hc⟩
  · go_enter Try.func34, Try.ntmps34
    go_wp2
    go_ret
    exact ⟨rfl, Below.refl _ _⟩
  · go_enter Try.func34, Try.ntmps34
    go_wp2_with (first
      | (go_at_call 63; refine (keys_ok _ _).mono ?_; rintro e w1 ⟨rfl, rfl⟩)
      | (go_at_call 62; refine HS.out.mono ?_; rintro e w2 ⟨v, ss, rfl, hss, hrow, hnil, hb⟩))
    go_ret
    obtain rfl := hnil.2 hss
    exact ⟨rfl, (alloc_below _ _).trans (hb.mono (by simp))⟩
set_option maxRecDepth 100000 in
theorem v_live (w : World) (p : Value) (h : Void w p) (A : Option Addr) (c : Nat) (l : List Int) (hC : IntC w A l) (hc : l.length ≤ c) (hl : l.length ≤ 100) (self : Int) :
    Calls Try.prog 39 #[p, .slice A l.length c, .int .i64 self] w fun e w' => e = .returned (.bool (live (fun _ => none) l self)) ∧ Below w.heap.size w w' := by
  have hBW : Below w.heap.size w ((w.alloc (.cells #[p] 52)).alloc (.cells #[.int .i64 self] 3)) := (alloc_below _ _).trans ((alloc_below _ _).mono (by simp))
  have hH : HasAt ((w.alloc (.cells #[p] 52)).alloc (.cells #[.int .i64 self] 3)) w.heap.size (w.heap.size + 1) (alive (fun _ => none) self) := fun w' n hb hw => by
    have b0 : w'.heap[w.heap.size]? = some (.cells #[p] 52 (0, 0)) := blk_below (blk_alloc (heap_alloc_new w (.cells #[p] 52)) _) hb
    have b1 : w'.heap[w.heap.size + 1]? = some (.cells #[.int .i64 self] 3 (0, 0)) := by
      have := blk_below (heap_alloc_new (w.alloc (.cells #[p] 52)) (.cells #[.int .i64 self] 3)) hb
      simpa using this
    exact has_ok w' _ _ (v_lines ((h.below hBW).below hb)) _ _ self n (blk_cell b0 0) (blk_cell b1 0) (blk_lt b1) hw
  have HM := Lib.hid (mreached _ _ _ _ hH A c l (hC.below hBW) hc hl)
  have HLV := Lib.hid (show (snd l && decide (quo l ≤ ((l.filter (alive (fun _ => none) self)).length : Int))) = live (fun _ => none) l self from rfl)
  rw [HLV.out] at HM
  generalize live (fun _ => none) l self = lvv at HM ⊢
  have HW := Lib.hid hBW
  have h00 := blk_alloc (heap_alloc_new w (.cells #[p] 52)) (.cells #[.int .i64 self] 3)
  have HB0 := Lib.hid h00
  have HV := h
  clear hBW hH hC h00
  rcases h with rfl | ⟨b, rfl, hc0⟩
  · clear HV
    go_enter Try.func39, Try.ntmps39
    go_wp2_with (go_at_call 66; refine HM.out.mono ?_; rintro e w1 ⟨rfl, hb1⟩; have hbx : w1.cell? ⟨w.heap.size, 0, none⟩ = some (.pointer none) := blk_cell (blk_below HB0.out hb1) 0)
    go_ret
    exact ⟨rfl, HW.out.trans (hb1.mono HW.out.size)⟩
  · clear HV
    have hlt := World.block_lt_of_cell? _ _ hc0
    have HC0 := Lib.hid hc0
    have hrg := fun W => run_range_nilMap (P := Try.prog) W 75 3 92 Try.underlying75
    have hnx := fun (W : World) ty => run_next_nilMap (P := Try.prog) W ty 0 0 #[]
    clear hc0
    go_enter Try.func39, Try.ntmps39
    go_wp2_with (go_at_call 66; refine HM.out.mono ?_; rintro e w1 ⟨rfl, hb1⟩; have hbx : w1.cell? ⟨w.heap.size, 0, none⟩ = some (.pointer (some ⟨b, 0, none⟩)) := blk_cell (blk_below HB0.out hb1) 0; have hc1 : w1.cell? ⟨b, 0, none⟩ = some (.map none) := ((HW.out.trans (hb1.mono HW.out.size)).cell (p := ⟨b, 0, none⟩) hlt).trans HC0.out)
    go_loopw [20] (fun _ wr => wr = w1.alloc (.mapIter none 0 #[] 0)) (fun _ wr => 0)
    case atStart => rfl
    case round =>
      subst hrel
      go_wp2
      go_ret
      have b1 := HW.out.trans (hb1.mono HW.out.size)
      exact ⟨rfl, b1.trans ((alloc_below _ _).mono b1.size)⟩
theorem Void.nil (w : World) : Void w (.pointer none) := .inl rfl
theorem snd_one {n : Int} (h0 : 0 ≤ n) (h1 : n ≤ 6) : snd [n] = true := by
  have : n = 0 ∨ n = 1 ∨ n = 2 ∨ n = 3 ∨ n = 4 ∨ n = 5 ∨ n = 6 := by omega
  rcases this with rfl | rfl | rfl | rfl | rfl | rfl | rfl <;> decide
theorem quo_one {v x : Int} (h : Quo [x] v) : v = x := by simpa using h.counts.1
theorem live_one {n : Int} (h0 : 0 ≤ n) (h1 : n ≤ 6) : live (fun _ => none) [n] n = true := by
  have : n = 0 ∨ n = 1 ∨ n = 2 ∨ n = 3 ∨ n = 4 ∨ n = 5 ∨ n = 6 := by omega
  rcases this with rfl | rfl | rfl | rfl | rfl | rfl | rfl <;> decide
theorem live_nil (n : Int) : live (fun _ => none) [] n = false := rfl
theorem one_C (w : World) (n : Int) (hn : (Lit.int .i64 n).wf = true) : IntC (w.alloc (.cells #[.int .i64 n] 3)) (some ⟨w.heap.size, 0, none⟩) [n] := by
  rw [IntC_iff]
  refine ⟨by simp, fun _ => ⟨_, rfl, fun j hj => ?_⟩⟩
  have hj' : j < 1 := hj
  obtain rfl : j = 0 := by omega
  have h2 := heap_alloc_new w (.cells #[.int .i64 n] 3)
  rw [Addr.add_lit]
  simp only [World.cell?, Nat.zero_add, h2]
  rfl
theorem nil_C (w : World) : IntC w none [] := IntC.nil
end Go.Proofs.Ytibdjmmhdggpfaa
