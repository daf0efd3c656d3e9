/-
  For every input curfewlaw05.MeterOnce returns true and leaves its arguments as they were. Conditions: none.
  (The frame of the row began as the shell that the kit's proof-skeleton.mjs writes; the walk is typed here.)
-/
import Derived.Test.YtimicedinjacaaaRows
import Derived.Test.YtimicedinjacaaaLives
import Derived.Deep.OwnRows
import Derived.WalkKit
import Derived.ProofKit
import Derived.OpenShut
import Derived.ShutString
import Derived.ChangeOld
import Derived.Below
namespace Go.Proofs.Ytimicedinjacaaa.meterOnce
open Go.ChangeShapes Go.WideShapes Go.ChangeAt Go.RowKit
open Go.ChangeMaps (open_string shut_string)
set_option linter.unusedVariables false

theorem own : ownKnob Try.prog.godebug = none := by kernel_rfl
theorem laidOut : laidOutB Try.prog = true := by kernel_rfl

/-- WHAT THE WALK IS TOLD OF A SLICE OF INTEGERS THAT CAME IN: it is nil; or it leads to a row of 'cap' cells, the numbers 'zs' (the first 'len' are its elements, the rest its spare room), each fitting its kind. -/
def IsRow (k : IntKind) (w : World) (a : Option Addr) (len cap : Nat) (zs : List Int) : Prop :=
  (a = none ∧ len = 0 ∧ cap = 0 ∧ zs = []) ∨
  ∃ x, a = some x ∧ len ≤ cap ∧ cap ≤ maxLen ∧ zs.length = cap ∧ (∀ i, i < zs.length → w.cell? (x.add i) = some (.int k (zs.getD i 0))) ∧ ∀ n ∈ zs, (Lit.int k n).wf = true


/-- What holds at the head of each round of the first loop. -/
structure Rel1 (w : World) (n : Int) (len k : Nat) (c : Nat → Int) (m : Nat → Bool) (wr : World) : Prop where
  le : k ≤ len
  at_ : MAt wr w.heap.size c n
  row : wr.rowIs (w.heap.size + 1) 4 n.toNat (fun j => .bool (m j))
  bel : Below w.heap.size w wr
  same : ∀ j, m j = true ↔ ¬ c j = 0

theorem below_nob {w w' : World} (h : Nob w w') : Below w.heap.size w w' := ⟨h.os, h.tape, h.output, h.size, fun k hk => h.block k hk (by simp)⟩
theorem below_stp {B : Nat} {w w1 w2 : World} {b : Nat} {c : Nat → Int} {n : Int} (h : Below B w w1) (s : Stp w1 b c n w2) (hB : B ≤ w1.heap.size) (hb : B ≤ b) : Below B w w2 :=
  h.grown s.grown hB (fun k e => by cases e; exact hb)

theorem walk_lives (a0 : Int) (a1 : Option Addr) (len1 cap1 : Nat) (w : World) (h : a0 < 1 ∨ 16 < a0 ∨ 200 < (len1 : Int)) :
    Calls Try.prog 3 #[.int .i64 a0, .slice a1 len1 cap1] w fun e w' => e = .returned (.bool true) ∧ Below w.heap.size w w' := by
  by_cases h1 : a0 < 1
  · go_enter Try.func3, Try.ntmps3
    go_wp2_with (go_at_call 6; refine (lives_true _).mono ?_; rintro e w' ⟨rfl, hn⟩)
    go_ret
    exact ⟨rfl, below_nob hn⟩
  · by_cases h2 : 16 < a0
    · go_enter Try.func3, Try.ntmps3
      go_wp2_with (go_at_call 6; refine (lives_true _).mono ?_; rintro e w' ⟨rfl, hn⟩)
      go_ret
      exact ⟨rfl, below_nob hn⟩
    · have h3 : 200 < (len1 : Int) := by omega
      clear h
      go_enter Try.func3, Try.ntmps3
      go_wp2_with (go_at_call 6; refine (lives_true _).mono ?_; rintro e w' ⟨rfl, hn⟩)
      go_ret
      exact ⟨rfl, below_nob hn⟩

theorem info4 : (Try.prog.info? 4).map (fun i => (i.zero, i.size, i.bytes)) = some (some (.bool false), 1, 1) := by kernel_rfl

theorem at_out_all (w : World) (b : Nat) (c : Nat → Int) (n : Nat) (h : MAt w b c n) (hn : 1 ≤ n) (i : Int) (hi : i < 0 ∨ (n : Int) ≤ i) :
    Calls Try.prog 8 #[.pointer (some ⟨b, 0, none⟩), .int .i64 i] w fun e w' => e = .returned (.bool false) ∧ w = w' :=
  once_no _ _ _ 2 (by decide) (at_out w b c n h (by omega) i hi)

theorem row_stp {w wr w1 : World} {n len k : Nat} {c c' : Nat → Int} {m : Nat → Bool} (R : Rel1 w n len k c m wr) (s : Stp wr w.heap.size c' n w1) :
    w1.rowIs (w.heap.size + 1) 4 n (fun j => .bool (m j)) := by
  have r := R.row
  exact r.of_block (s.grown.block _ r.lt (fun e => by injection e with e; omega))

theorem rel_hit {w wr w1 : World} {n len k j : Nat} {c : Nat → Int} {m : Nat → Bool} (R : Rel1 w n len k c m wr) (s : Stp wr w.heap.size (upd c j 1) n w1) (hk : k < len) (hj : j < n) (hz : c j = 0) :
    Rel1 w n len (k + 1) (upd c j 1) (fun i => if i = j then true else m i) (w1.setCell ⟨w.heap.size + 1, j, none⟩ (.bool true)) where
  le := hk
  at_ := by
    have h := s.at_
    unfold MAt at h ⊢
    rw [Below.heap_setCell _ _ _ _ (by simp)]
    exact h
  row := ((row_stp R s).set j (.bool true)).congr (fun i _ => by by_cases e : i = j <;> simp [e])
  bel := (below_stp R.bel s R.bel.size (Nat.le_refl _)).setCell (by simp) _
  same := fun i => by
    by_cases e : i = j
    · simp [e, upd]
    · simp [e, upd, R.same i]

theorem walk_main (a0 : Int) (a1 : Option Addr) (len1 cap1 : Nat) (z1 : List Int) (w : World) (h1 : 1 ≤ a0) (h2 : a0 ≤ 16) (h3 : (len1 : Int) ≤ 200)
    (hcell : ∀ i, i < len1 → ∃ b o, a1 = some ⟨b, o, none⟩ ∧ w.cell? ⟨b, o + i, none⟩ = some (.int .i64 (z1.getD i 0))) :
    Calls Try.prog 3 #[.int .i64 a0, .slice a1 len1 cap1] w fun e w' => e = .returned (.bool true) ∧ Below w.heap.size w w' := by
  obtain ⟨n, rfl⟩ : ∃ n : Nat, a0 = (n : Int) := ⟨a0.toNat, by omega⟩
  have hmk := run_make_row' (P := Try.prog) 26 4 (.bool false) 1 Try.underlying26 info4 rfl .i64 .i64 n (by omega) (by omega)
  have HC := Lib.hid hcell
  clear hcell
  go_enter Try.func3, Try.ntmps3
  go_wp2_with (go_at_call 7; refine (new_some _ _ h1 h2).mono ?_; rintro e w' ⟨rfl, rfl⟩)
  go_loopw [29] (fun i wr => ∃ (k : Nat) (c : Nat → Int) (m : Nat → Bool), i = .int .i64 k ∧ Rel1 w n len1 k c m wr) (fun i _ => len1 - (intOf i).toNat)
  case atStart =>
    refine ⟨0, fun _ => 0, fun _ => false, rfl, Nat.zero_le _, (mat_new _ _ _).alloc _, ?_, ((Below.refl _ _).alloc (Nat.le_refl _) _).alloc (by simp) _, by simp⟩
    have := World.rowIs_made (w.alloc (.cells (mcells (fun _ => 0) n) 52)) (.bool false) n 4
    simpa using this
  case round =>
    obtain ⟨k, c, m, rfl, R⟩ := hrel
    by_cases hlt : k < len1
    · obtain ⟨b, o, rfl, hc⟩ := HC.out k hlt
      have hb : b < w.heap.size := World.block_lt_of_cell? _ _ hc
      have hc' : wr.cell? ⟨b, o + k, none⟩ = some (.int .i64 (z1.getD k 0)) := (R.bel.cell (p := ⟨b, o + k, none⟩) hb).trans hc
      generalize z1.getD k 0 = x at hc hc'
      clear hc
      by_cases hx : x < 0
      · go_wp2_with (go_at_call 8; refine (at_out_all _ _ _ _ R.at_ (by omega) x (.inl hx)).mono ?_; rintro e w' ⟨rfl, rfl⟩)
        go_roundw
        case rel => exact ⟨k + 1, c, m, by go_num, by omega, R.at_, R.row, R.bel, R.same⟩
        case measure => simp [intOf]; omega
      · by_cases hx2 : (n : Int) ≤ x
        · go_wp2_with (go_at_call 8; refine (at_out_all _ _ _ _ R.at_ (by omega) x (.inr hx2)).mono ?_; rintro e w' ⟨rfl, rfl⟩)
          go_roundw
          case rel => exact ⟨k + 1, c, m, by go_num, by omega, R.at_, R.row, R.bel, R.same⟩
          case measure => simp [intOf]; omega
        · obtain ⟨j, rfl⟩ : ∃ j : Nat, x = (j : Int) := ⟨x.toNat, by omega⟩
          have hj : j < n := by omega
          have hm := R.row.cell (i := j) (by omega)
          have hf := R.row.frozen j
          cases hmj : m j with
          | true =>
            have hz := (R.same j).1 hmj
            rw [hmj] at hm
            go_wp2_with (go_at_call 8; refine (once_miss _ _ _ _ R.at_ h2 j (by omega) hz).mono ?_; rintro e w' ⟨rfl, rfl⟩)
            go_roundw
            case rel => exact ⟨k + 1, c, m, by go_num, by omega, R.at_, R.row, R.bel, R.same⟩
            case measure => simp [intOf]; omega
          | false =>
            have hz : c j = 0 := by have := R.same j; rw [hmj] at this; simpa using this
            rw [hmj] at hm
            have HZ := Lib.hid hz
            clear hz
            go_wp2_with (go_at_call 8; refine (once_hit _ _ _ _ R.at_ h2 j (by omega) HZ.out).mono ?_; rintro e w1 ⟨rfl, s1⟩; have row1 := row_stp R s1; have hm1 := row1.cell (i := j) (by omega); have hf1 := row1.frozen j)
            go_roundw
            case rel => exact ⟨k + 1, _, _, by go_num, rel_hit R s1 (by omega) (by omega) HZ.out⟩
            case measure => simp [intOf]; omega
    · go_wp2
      have hat := R.at_
      have hbel := R.bel
      clear R HC hmk hlt
      go_loopw [58] (fun i wr => ∃ (k : Nat) (c : Nat → Int), i = .int .i64 k ∧ k ≤ n ∧ MAt wr w.heap.size c n ∧ Below w.heap.size w wr) (fun i _ => n - (intOf i).toNat)
      case atStart => exact ⟨0, c, rfl, by omega, hat, hbel⟩
      case round =>
        clear hat hbel
        obtain ⟨k, c, rfl, hk, hat, hbel⟩ := hrel
        by_cases hlt : k < n
        · go_wp2_with (first
            | (go_at_call 9; refine (swap_ok _ _ _ _ hat h2 k (by omega) _ (by decide)).mono ?_; rintro e w1 ⟨rfl, s1⟩)
            | (go_at_call 8; with_reducible refine (once_hit _ _ _ _ s1.at_ h2 k (by omega) (by simp [upd])).mono ?_; rintro e w2 ⟨rfl, s2⟩)
            | (go_at_call 8; with_reducible refine (once_miss _ _ _ _ s2.at_ h2 k (by omega) (by simp [upd])).mono ?_; rintro e w3 ⟨rfl, rfl⟩))
          have s3 := s1.trans s2
          go_roundw
          case rel => exact ⟨k + 1, _, by go_num, by omega, s3.at_, below_stp hbel s3 hbel.size (Nat.le_refl _)⟩
          case measure => simp [intOf]; omega
        · go_wp2_with (go_at_call 6; refine (lives_true _).mono ?_; rintro e w' ⟨rfl, hn⟩)
          go_ret
          exact ⟨rfl, hbel.trans ((below_nob hn).mono hbel.size)⟩

theorem walk (a0 : Int) (a1 : Option Addr) (len1 cap1 : Nat) (z1 : List Int) (w : World) (w0 : (Lit.int .i64 a0).wf = true) (w1 : IsRow .i64 w a1 len1 cap1 z1) :
    Calls Try.prog 3 #[.int .i64 a0, .slice a1 len1 cap1] w fun e w' => e = .returned (.bool true) ∧ Below w.heap.size w w' := by
  by_cases h : a0 < 1 ∨ 16 < a0 ∨ 200 < (len1 : Int)
  · exact walk_lives a0 a1 len1 cap1 w h
  · refine walk_main a0 a1 len1 cap1 z1 w (by omega) (by omega) (by omega) (fun i hi => ?_)
    rcases w1 with ⟨rfl, rfl, rfl, rfl⟩ | ⟨x, rfl, hl, hm, hz, hcell, hwz⟩
    · omega
    · have hc := hcell i (by omega)
      obtain ⟨b, off, spot⟩ := x
      have hc0 := hcell 0 (by omega)
      have hspot : spot = none := by simpa [Addr.add] using World.cell?_spot hc0
      subst hspot
      exact ⟨b, off, rfl, by rw [← hc, Addr.add_lit]⟩

/-! ### The row's step -/
set_option maxRecDepth 100000 in
theorem lifted (os : Os) (started : os.Started) (H : Type) (enc : TypeId × Value → H) :
    ReturnsInHanded {} Try.checked os 3 .any (Rows.meterOnceSpec.pre6 enc Try.prog Try.f3 Rows.meterOnceRow.domain false) (Rows.meterOnceSpec.post enc Try.prog Try.f3 false true false false) := by
  refine returnsInHanded_of_change (C := Try.checked) own started (by kernel_rfl) Try.func3
    (ChangeSpec.witness6 (enc := enc) (C := Try.checked) false ⟨#[], #[.int .i64 0, .slice none 0 0], []⟩ 8 (by kernel_rfl) (by kernel_rfl) (by kernel_rfl) (by kernel_rfl)) ?_
  intro W base args ds gs before hval0 hW hcnd _
  have hval : ∀ (j : Nat) t v, Try.f3.params[j]? = some t → args[j]? = some v → Value.okWide Try.prog W .any base t v := hval0
  have hW' := hW
  obtain ⟨p, q, hA0, hV, rfl, hfz, hnd⟩ := hW
  have hA : DataW.TrodAll enc Try.prog W 0 (fun _ => true) true Try.f3.params.toList args.toList ds p := hA0
  rw [Try.params3] at hA hval
  obtain ⟨v0, vs0, d0, ds0, p0, q0, hargs, rfl, rfl, h0, r0⟩ := trodAll_cons hA
  obtain ⟨v1, vs1, d1, ds1, p1, q1, rfl, rfl, rfl, h1, r1⟩ := trodAll_cons r0
  obtain ⟨rfl, rfl, rfl⟩ := trodAll_nil r1
  obtain rfl : args = #[v0, v1] := by cases args; simp_all
  obtain ⟨rfl, rfl⟩ := trodVars_none hV
  obtain ⟨a0, rfl, rfl, rfl, w0⟩ := open_int Try.underlying3 (hval 0 3 v0 rfl rfl) h0
  obtain ⟨a1, len1, cap1, rfl⟩ := okWide_slice Try.underlying22 (hval 1 22 v1 rfl rfl)
  have k1 := h1
  have lt1 : ∀ x ∈ p1, x.block < W.heap.size := by obtain ⟨m, hm⟩ := k1; exact DataW.trod_lt m _ _ _ hm
  obtain ⟨z1, w1⟩ : ∃ zs, IsRow .i64 W a1 len1 cap1 zs := by
    obtain ⟨fuel, hf⟩ := h1
    rcases open_ints Try.underlying22 Try.underlying3 (by kernel_rfl) hf with ⟨hcs, _⟩ | ⟨x, l, c, zs, hcs, _, hl, hm, hz, _, hcell, hwz⟩
    · simp [Value.cells] at hcs
      obtain ⟨rfl, rfl, rfl⟩ := hcs
      exact ⟨[], .inl ⟨rfl, rfl, rfl, rfl⟩⟩
    · simp [Value.cells] at hcs
      obtain ⟨rfl, rfl, rfl⟩ := hcs
      exact ⟨zs, .inr ⟨_, rfl, hl, hm, by simpa using hz, hcell, hwz⟩⟩
  clear hA0 hval0
  refine (walk a0 a1 len1 cap1 z1 W w0 w1).mono fun e W' ⟨he, bel⟩ => ?_
  subst he
  exact ⟨_, rfl, _, _, _, [], _, [], hW', trodAll_mk1 (shut_bool Try.underlying4 _), (trodAll_cons_mk (shut_int Try.underlying3 w0) (trodAll_cons_mk (Below.trod laidOut (by kernel_rfl) (of_decide_eq_true (by kernel_rfl)) k1 bel lt1) trodAll_mk0)), rfl, bel.frame _, fun h => by cases h⟩

theorem over : Rows.meterOnceRow.holds Try.pinned (OpenSpec.ofChange Rows.meterOnceSpec) :=
  OpenClaim.holds_of_wide 3 Try.f3 rfl rfl rfl rfl rfl rfl rfl ⟨rfl, rfl, rfl, rfl, rfl⟩ rfl rfl rfl rfl rfl (by kernel_rfl) Try.func3 (by kernel_rfl)
    (of_decide_eq_true (by kernel_rfl)) (by unfold Func.isWrapper; first | (rw [if_pos (by decide +kernel)]; kernel_rfl) | (rw [if_neg (by decide +kernel)]; exact ⟨rfl, rfl⟩))
    (fun os started H enc _ => lifted os started H enc)

/-- The statement. -/
theorem proved : Rows.MeterOnceSaid := over
#print axioms proved
end Go.Proofs.Ytimicedinjacaaa.meterOnce
