/-
  For every input curfewlaw32.PollNobody returns true and leaves its arguments as they were. Conditions: none.
  (The frame of the row began as the shell that the kit's proof-skeleton.mjs writes; the walk is typed here.)
-/
import Derived.Test.YtibdjmmhdggpfaaRows
import Derived.Test.YtibdjmmhdggpfaaPlaysRel
import Derived.Deep.OwnRows
import Derived.WalkKit
import Derived.ProofKit
import Derived.OpenShut
import Derived.ShutString
import Derived.ChangeOld
import Derived.Below
namespace Go.Proofs.Ytibdjmmhdggpfaa.pollNobody
open Go.ChangeShapes Go.WideShapes Go.ChangeAt Go.RowKit
open Go.ChangeMaps (open_string shut_string)
open Go.Proofs.YtibdjmmhdggpfaaW.PrintWords
open Go.Proofs.YtibdjmmhdggpfaaW.PrintMore
open Go.Proofs.Ytibdjmmhdggpfaa.pure
set_option linter.unusedVariables false

theorem own : ownKnob Try.prog.godebug = none := by kernel_rfl
theorem laidOut : laidOutB Try.prog = true := by kernel_rfl

theorem said_in {H : Type} {enc : TypeId × Value → H} {w : World} {base : Nat} {spare : Nat → Bool} {held : Bool} {fuel : Nat} {cs : Array Value} {x : DataW H × List MemPlace}
    (h : DataW.trod enc Try.prog w base spare held fuel 31 (Value.agg cs).cells.toList = some x) (hl : cs.size = Try.prog.cellsOf 31) : ∃ n b, cs = #[.int .i64 n, .bool b] := by
  rw [cells31] at hl
  have e : (Value.agg cs).cells.toList = cs.toList := rfl
  rw [e] at h
  obtain ⟨K, hK, _⟩ := opens.field_int Try.underlying31 h 0 _ rfl Try.underlying3 cells3
  obtain ⟨I, hI⟩ := opens.field_bool Try.underlying31 h 1 _ rfl Try.underlying4 cells4
  replace hK : cs.toList[0]? = some (.int .i64 K) := hK
  replace hI : cs.toList[1]? = some (.bool I) := hI
  refine ⟨K, I, ?_⟩
  apply Array.ext'
  apply List.ext_getElem?
  intro k
  match k with
  | 0 => simpa using hK
  | 1 => simpa using hI
  | k + 2 => simp [hl]

/-- The two polls that are none, in their row. -/
theorem pair_dead (w : World) (p : Value) (h : Dead w p) {w' : World} (hb : Below w.heap.size w w') : Dead w' p := by
  rcases h with rfl | ⟨b, rfl, hc⟩
  · exact .inl rfl
  · exact .inr ⟨b, rfl, (hb.cell (p := ⟨b, 1, none⟩) (World.block_lt_of_cell? _ _ hc)).trans hc⟩

set_option maxRecDepth 100000 in
theorem walk (x : Int) (ok : Bool) (w : World) : Calls Try.prog 6 #[.agg #[.int .i64 x, .bool ok]] w fun e w' => e = .returned (.bool true) ∧ Below w.heap.size w w' := by
  go_enter Try.func6, Try.ntmps6
  go_wp2_with (fail)
  have sx := blk_alloc (blk_alloc (heap_alloc_new w (.cells #[.int .i64 x, .bool ok] 31)) (.cells #[.slice none 0 0, .map none] 46)) (.cells #[.pointer none, .pointer (some ⟨w.heap.size + 1, 0, none⟩)] 25)
  have sp := blk_alloc (heap_alloc_new (w.alloc (.cells #[.int .i64 x, .bool ok] 31)) (.cells #[.slice none 0 0, .map none] 46)) (.cells #[.pointer none, .pointer (some ⟨w.heap.size + 1, 0, none⟩)] 25)
  have sr := heap_alloc_new ((w.alloc (.cells #[.int .i64 x, .bool ok] 31)).alloc (.cells #[.slice none 0 0, .map none] 46)) (.cells #[.pointer none, .pointer (some ⟨w.heap.size + 1, 0, none⟩)] 25)
  have hB : Below w.heap.size w (((w.alloc (.cells #[.int .i64 x, .bool ok] 31)).alloc (.cells #[.slice none 0 0, .map none] 46)).alloc (.cells #[.pointer none, .pointer (some ⟨w.heap.size + 1, 0, none⟩)] 25)) :=
    below_alloc (below_alloc (below_alloc (Below.refl _ _) _) _) _
  simp only [World.size_alloc] at sp sr
  generalize ((w.alloc (.cells #[.int .i64 x, .bool ok] 31)).alloc (.cells #[.slice none 0 0, .map none] 46)).alloc (.cells #[.pointer none, .pointer (some ⟨w.heap.size + 1, 0, none⟩)] 25) = W at sx sp sr hB ⊢
  have x0 := blk_cell sx 0
  have x1 := blk_cell sx 1
  have r0 := blk_cell sr 0
  have r1 := blk_cell sr 1
  have HD0 := Lib.hid (show Dead W (.pointer none) from .inl rfl)
  have HD1 := Lib.hid (show Dead W (.pointer (some ⟨w.heap.size + 1, 0, none⟩)) from .inr ⟨_, rfl, (blk_cell sp 1).trans rfl⟩)
  clear sx sp sr
  go_loop [11] (fun i => ∃ k : Nat, i = .int .i64 k ∧ k ≤ 2) (fun i => 2 - (intOf i).toNat)
  case atStart => exact ⟨0, rfl, by omega⟩
  case round =>
    obtain ⟨k, rfl, hk⟩ := hrel
    have hk3 : k = 0 ∨ k = 1 ∨ k = 2 := by omega
    rcases hk3 with rfl | rfl | rfl
    · go_wp2_with (first
        | (go_at_call 15; refine (dead_note _ _ HD0.out _ _).mono ?_; rintro e w1 ⟨rfl, rfl⟩)
        | (go_at_call 16; refine (dead_state _ _ HD0.out).mono ?_; rintro e w1 ⟨rfl, rfl⟩)
        | (go_at_call 19; refine (dead_yes _ _ HD0.out).mono ?_; rintro e w1 ⟨rfl, rfl⟩)
        | (go_at_call 20; refine (dead_no _ _ HD0.out).mono ?_; rintro e w1 ⟨rfl, rfl⟩))
      go_round
      case rel => exact ⟨1, by go_num, by omega⟩
      case measure => simp [intOf]
    · go_wp2_with (first
        | (go_at_call 15; refine (dead_note _ _ HD1.out _ _).mono ?_; rintro e w1 ⟨rfl, rfl⟩)
        | (go_at_call 16; refine (dead_state _ _ HD1.out).mono ?_; rintro e w1 ⟨rfl, rfl⟩)
        | (go_at_call 19; refine (dead_yes _ _ HD1.out).mono ?_; rintro e w1 ⟨rfl, rfl⟩)
        | (go_at_call 20; refine (dead_no _ _ HD1.out).mono ?_; rintro e w1 ⟨rfl, rfl⟩))
      go_round
      case rel => exact ⟨2, by go_num, by omega⟩
      case measure => simp [intOf]
    · go_wp2_with (go_at_call 11; refine (lives_true _).mono ?_; rintro e w' ⟨rfl, hn⟩)
      go_ret
      exact ⟨rfl, hB.trans (hn.mono hB.size)⟩

/-! ### The row's step -/
set_option maxRecDepth 100000 in
theorem lifted (os : Os) (started : os.Started) (H : Type) (enc : TypeId × Value → H) :
    ReturnsInHanded {} Try.checked os 6 .any (Rows.pollNobodySpec.pre6 enc Try.prog Try.f6 Rows.pollNobodyRow.domain false) (Rows.pollNobodySpec.post enc Try.prog Try.f6 false true false false) := by
  refine returnsInHanded_of_change (C := Try.checked) own started (by kernel_rfl) Try.func6
    (ChangeSpec.witness6 (enc := enc) (C := Try.checked) false ⟨#[], #[.agg #[.int .i64 0, .bool false]], []⟩ 8 (by kernel_rfl) (by kernel_rfl) (by kernel_rfl) (by kernel_rfl)) ?_
  intro W base args ds gs before hval0 hW hcnd _
  have hval : ∀ (j : Nat) t v, Try.f6.params[j]? = some t → args[j]? = some v → Value.okWide Try.prog W .any base t v := hval0
  have hW' := hW
  obtain ⟨p, q, hA0, hV, rfl, hfz, hnd⟩ := hW
  have hA : DataW.TrodAll enc Try.prog W 0 (fun _ => true) true Try.f6.params.toList args.toList ds p := hA0
  rw [Try.params6] at hA hval
  obtain ⟨v0, vs0, d0, ds0, p0, q0, hargs, rfl, rfl, h0, r0⟩ := trodAll_cons hA
  obtain ⟨rfl, rfl, rfl⟩ := trodAll_nil r0
  obtain rfl : args = #[v0] := by cases args; simp_all
  obtain ⟨rfl, rfl⟩ := trodVars_none hV
  obtain ⟨cs0, rfl, hsz0⟩ := okWide_struct Try.underlying31 (hval 0 31 v0 rfl rfl)
  have k0 := h0
  have lt0 : ∀ x ∈ p0, x.block < W.heap.size := by obtain ⟨m, hm⟩ := k0; exact DataW.trod_lt m _ _ _ hm
  obtain ⟨x0, ok0, rfl⟩ := (show ∃ n b, cs0 = #[Value.int .i64 n, Value.bool b] by obtain ⟨fuel, hf⟩ := h0; exact said_in hf hsz0)
  clear hA0 hval0
  refine (walk x0 ok0 W ).mono fun e W' ⟨he, bel⟩ => ?_
  subst he
  exact ⟨_, rfl, _, _, _, [], _, [], hW', trodAll_mk1 (shut_bool Try.underlying4 _), (trodAll_cons_mk (Below.trod laidOut (by kernel_rfl) (of_decide_eq_true (by kernel_rfl)) k0 bel lt0) trodAll_mk0), rfl, bel.frame _, fun h => by cases h⟩

theorem over : Rows.pollNobodyRow.holds Try.pinned (OpenSpec.ofChange Rows.pollNobodySpec) :=
  OpenClaim.holds_of_wide 6 Try.f6 rfl rfl rfl rfl rfl rfl rfl ⟨rfl, rfl, rfl, rfl, rfl⟩ rfl rfl rfl rfl rfl (by kernel_rfl) Try.func6 (by kernel_rfl)
    (of_decide_eq_true (by kernel_rfl)) (by unfold Func.isWrapper; first | (rw [if_pos (by decide +kernel)]; kernel_rfl) | (rw [if_neg (by decide +kernel)]; exact ⟨rfl, rfl⟩))
    (fun os started H enc _ => lifted os started H enc)

/-- The statement. -/
theorem proved : Rows.PollNobodySaid := over
#print axioms proved
end Go.Proofs.Ytibdjmmhdggpfaa.pollNobody
