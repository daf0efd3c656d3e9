/-
  For every input curfewlaw05.MeterPlays returns true and leaves its arguments as they were. Conditions: none.
  (The frame of the row began as the shell that the kit's proof-skeleton.mjs writes; the walk is typed here.)
-/
import Derived.Test.YtimicedinjacaaaRows
import Derived.Test.YtimicedinjacaaaAll
import Derived.Test.YtimicedinjacaaaOpen
import Derived.Deep.OwnRows
import Derived.WalkKit
import Derived.ProofKit
import Derived.OpenShut
import Derived.ShutString
import Derived.ChangeOld
import Derived.Below
namespace Go.Proofs.Ytimicedinjacaaa.meterPlays
open Go.ChangeShapes Go.WideShapes Go.ChangeAt Go.RowKit
open Go.ChangeMaps (open_string shut_string)
set_option linter.unusedVariables false

theorem own : ownKnob Try.prog.godebug = none := by kernel_rfl
theorem laidOut : laidOutB Try.prog = true := by kernel_rfl

theorem cells36 : Try.prog.cellsOf 36 = 3 := by kernel_rfl
theorem cells3 : Try.prog.cellsOf 3 = 1 := by kernel_rfl
theorem cells28 : Try.prog.cellsOf 28 = 1 := by kernel_rfl

/-- The calls that came in, where each lies. -/
def IsOps (w : World) (a : Option Addr) (len : Nat) : Prop :=
  ∀ i, i < len → ∃ b o K I y, a = some ⟨b, o, none⟩ ∧ w.cell? ⟨b, o + i * 3, none⟩ = some (.int .i64 K) ∧ w.cell? ⟨b, o + i * 3 + 1, none⟩ = some (.int .i64 I) ∧ w.cell? ⟨b, o + i * 3 + 2, none⟩ = some (.int .u64 y) ∧ 0 ≤ y

theorem isOps {H : Type} {enc : TypeId × Value → H} {w : World} {base : Nat} {spare : Nat → Bool} {held : Bool} {fuel : Nat} {a : Option Addr} {len cap : Nat} {x : DataW H × List MemPlace}
    (h : DataW.trod enc Try.prog w base spare held fuel 33 [.slice a len cap] = some x) : IsOps w a len := by
  intro i hi
  obtain ⟨b, o, rfl, cs, n, y, hl, hc, ht⟩ := (opens.slice_elems Try.underlying33 (by rw [cells36]; omega) h).2.2.2 i hi
  rw [cells36] at hc
  obtain ⟨K, hK, _⟩ := opens.field_int Try.underlying36 ht 0 _ rfl Try.underlying3 cells3
  obtain ⟨I, hI, _⟩ := opens.field_int Try.underlying36 ht 1 _ rfl Try.underlying3 cells3
  obtain ⟨N, hN, wN⟩ := opens.field_int Try.underlying36 ht 2 _ rfl Try.underlying28 cells28
  replace hK : cs[0]? = some (.int .i64 K) := hK
  replace hI : cs[1]? = some (.int .i64 I) := hI
  replace hN : cs[2]? = some (.int .u64 N) := hN
  obtain ⟨v0, e0, c0⟩ := hc 0 (by omega)
  obtain ⟨v1, e1, c1⟩ := hc 1 (by omega)
  obtain ⟨v2, e2, c2⟩ := hc 2 (by omega)
  rw [hK] at e0
  rw [hI] at e1
  rw [hN] at e2
  cases e0
  cases e1
  cases e2
  refine ⟨b, o, K, I, N, rfl, c0, c1, c2, ?_⟩
  simp only [Lit.wf, Bool.and_eq_true, decide_eq_true_eq] at wN
  exact wN.1

/-- One call, whichever. -/
theorem do_any (w : World) (base b g cap n : Nat) (c : Nat → Int) (hbs : base ≤ w.heap.size) (hbb : b < base) (hM : MAt w b c n) (R : RowU w base g cap c n) (h1 : 1 ≤ n) (hn : n ≤ 16) (hc : Bnd c)
    (K I y : Int) (hy : 0 ≤ y) :
    Calls Try.prog 10 #[.pointer (some ⟨b, 0, none⟩), .slice (some ⟨g, 0, none⟩) n cap, .agg #[.int .i64 K, .int .i64 I, .int .u64 y]] w (DoPost w base b n) := by
  by_cases hi : I < 0 ∨ (n : Int) ≤ I
  · by_cases e1 : K = 1
    · subst e1; exact do1_no w base b g cap n c hbs hbb hM R h1 hc I hi y
    by_cases e2 : K = 2
    · subst e2; exact do2_no w base b g cap n c hbs hbb hM R h1 hc I hi y
    by_cases e3 : K = 3
    · subst e3; exact do3_no w base b g cap n c hbs hbb hM R h1 hn hc I hi y
    by_cases e4 : K = 4
    · subst e4; exact do4_no w base b g cap n c hbs hbb hM R h1 hn hc I hi y
    exact do0_no w base b g cap n c hbs hbb hM R h1 hc K (by simpa using e1) (by simpa using e2) (by simpa using e3) (by simpa using e4) I hi y
  · obtain ⟨k, rfl⟩ : ∃ k : Nat, I = (k : Int) := ⟨I.toNat, by omega⟩
    have hk : k < n := by omega
    by_cases e1 : K = 1
    · subst e1
      by_cases hy1 : 4611686018427387904 < y
      · exact do1_big w base b g cap n c hbs hbb hM R h1 hn hc k hk y hy1
      by_cases hy2 : y ≤ c k
      · exact do1_le w base b g cap n c hbs hbb hM R h1 hn hc k hk y (by omega) hy2
      · exact do1_ok w base b g cap n c hbs hbb hM R h1 hn hc k hk y (by omega) (by omega)
    by_cases e2 : K = 2
    · subst e2
      by_cases hy1 : 4611686018427387904 < y
      · exact do2_big w base b g cap n c hbs hbb hM R h1 hn hc k hk y hy1
      · exact do2_ok w base b g cap n c hbs hbb hM R h1 hn hc k hk y hy (by omega)
    by_cases e3 : K = 3
    · subst e3
      by_cases hz : c k = 0
      · exact do3_hit w base b g cap n c hbs hbb hM R h1 hn hc k hk y hz
      · exact do3_miss w base b g cap n c hbs hbb hM R h1 hn hc k hk y hz
    by_cases e4 : K = 4
    · subst e4; exact do4_in w base b g cap n c hbs hbb hM R h1 hn hc k hk y
    by_cases hy1 : 4611686018427387904 - c k < y
    · exact do0_big w base b g cap n c hbs hbb hM R h1 hn hc K (by simpa using e1) (by simpa using e2) (by simpa using e3) (by simpa using e4) k hk y hy hy1
    · exact do0_ok w base b g cap n c hbs hbb hM R h1 hn hc K (by simpa using e1) (by simpa using e2) (by simpa using e3) (by simpa using e4) k hk y hy (by omega)

theorem below_nob {w w' : World} (h : Nob w w') : Below w.heap.size w w' := ⟨h.os, h.tape, h.output, h.size, fun k hk => h.block k hk (by simp)⟩

theorem walk_lives (a0 : Int) (a1 : Option Addr) (len1 cap1 : Nat) (w : World) (h : a0 < 1 ∨ 16 < a0 ∨ 200 < (len1 : Int)) :
    Calls Try.prog 4 #[.int .i64 a0, .slice a1 len1 cap1] w fun e w' => e = .returned (.bool true) ∧ Below w.heap.size w w' := by
  by_cases h1 : a0 < 1
  · go_enter Try.func4, Try.ntmps4
    go_wp2_with (go_at_call 6; refine (lives_true _).mono ?_; rintro e w' ⟨rfl, hn⟩)
    go_ret
    exact ⟨rfl, below_nob hn⟩
  · by_cases h2 : 16 < a0
    · go_enter Try.func4, Try.ntmps4
      go_wp2_with (go_at_call 6; refine (lives_true _).mono ?_; rintro e w' ⟨rfl, hn⟩)
      go_ret
      exact ⟨rfl, below_nob hn⟩
    · have h3 : 200 < (len1 : Int) := by omega
      clear h
      go_enter Try.func4, Try.ntmps4
      go_wp2_with (go_at_call 6; refine (lives_true _).mono ?_; rintro e w' ⟨rfl, hn⟩)
      go_ret
      exact ⟨rfl, below_nob hn⟩

/-- What holds at the head of each round. -/
structure Rel (w : World) (n len k : Nat) (v : Value) (wr : World) : Prop where
  le : k ≤ len
  both : ∃ c, Both wr (w.heap.size + 1) w.heap.size n c v wr
  bel : Below w.heap.size w wr
  lt : w.heap.size + 1 ≤ wr.heap.size

theorem rel_start (w : World) (n len : Nat) (h1 : (1 : Int) ≤ n) :
    Rel w n len 0 (.slice (some ⟨w.heap.size + 1, 0, none⟩) n n) ((w.alloc (.cells (mcells (fun _ => 0) n) 52)).alloc (.cells (madeCells #[.int .u64 0] n) 28)) where
  le := Nat.zero_le _
  both := by
    have r := World.rowIs_made (w.alloc (.cells (mcells (fun _ => 0) n) 52)) (.int .u64 0) n 28
    simp only [World.size_alloc] at r
    exact ⟨fun _ => 0, (mat_new _ _ _).alloc _, ⟨_, n, rfl, ⟨Nat.le_refl _, r.lt, fun i hi => r.cell hi, fun i => r.frozen i⟩⟩, World.grownBy.refl _ _, fun j => by constructor <;> simp⟩
  bel := ((Below.refl _ _).alloc (Nat.le_refl _) _).alloc (by simp) _
  lt := by simp

theorem rel_end {w wr w2 w3 w4 : World} {n len k m g2 cap2 : Nat} {v v2 : Value} {c2 : Nat → Int} {o : Obj} (R : Rel w n len k v wr) (hlt : k < len)
    (B2 : Both (wr.alloc o) (w.heap.size + 1) w.heap.size n c2 v2 w2) (R2 : RowU w2 (w.heap.size + 1) g2 cap2 c2 n) (hg3 : w2.grownBy w3 none) (hg4 : (w3.drewN m).grownBy w4 none) :
    Rel w n len (k + 1) (.slice (some ⟨g2, 0, none⟩) n cap2) w4 where
  le := hlt
  both := ⟨c2, ((B2.at_.grown hg3 (by simp)).drewN m).grown hg4 (by simp), ⟨g2, cap2, rfl, ((R2.grown hg3 (by simp)).drewN m).grown hg4 (by simp)⟩, World.grownBy.refl _ _, B2.bnd⟩
  bel := by
    have a1 := R.bel.alloc R.bel.size o
    have a2 := a1.grown B2.grown a1.size (fun k e => by cases e; exact Nat.le_refl _)
    have a3 := a2.grown hg3 a2.size (by simp)
    have a4 : Below w.heap.size w (w3.drewN m) := ⟨a3.os, a3.tape, a3.output, a3.size, a3.block⟩
    exact a4.grown hg4 a4.size (by simp)
  lt := by
    have h1 := R.lt
    have h2 := B2.grown.size
    have h3 := hg3.size
    have h4 : w3.heap.size ≤ w4.heap.size := hg4.size
    simp at h2
    omega

set_option maxRecDepth 100000 in
set_option maxHeartbeats 400000 in
theorem walk_main (n : Nat) (a1 : Option Addr) (len1 cap1 : Nat) (w : World) (h1 : (1 : Int) ≤ n) (h2 : (n : Int) ≤ 16) (h3 : (len1 : Int) ≤ 200) (hops : IsOps w a1 len1) :
    Calls Try.prog 4 #[.int .i64 n, .slice a1 len1 cap1] w fun e w' => e = .returned (.bool true) ∧ Below w.heap.size w w' := by
  have hmk := run_make_row' (P := Try.prog) 34 28 (.int .u64 0) 8 Try.underlying34 infoU rfl .i64 .i64 n (by omega) (by omega)
  have HC := Lib.hid hops
  clear hops
  go_enter Try.func4, Try.ntmps4
  go_wp2_with (go_at_call 7; refine (new_some _ _ h1 h2).mono ?_; rintro e w' ⟨rfl, rfl⟩)
  go_loopw [6, 32] (fun v i wr => ∃ k : Nat, i = .int .i64 k ∧ Rel w n len1 k v wr) (fun _ i _ => len1 - (intOf i).toNat)
  case atStart => exact ⟨0, rfl, rel_start w n len1 h1⟩
  case round =>
    obtain ⟨k, rfl, R⟩ := hrel
    by_cases hlt : k < len1
    · obtain ⟨b, o, K, I, y, rfl, hc0, hc1, hc2, hy⟩ := HC.out k hlt
      have hb : b < w.heap.size := World.block_lt_of_cell? _ _ hc0
      have d0 := (R.bel.cell (p := ⟨b, o + k * 3, none⟩) hb).trans hc0
      have d1 := (R.bel.cell (p := ⟨b, o + k * 3 + 1, none⟩) hb).trans hc1
      have d2 := (R.bel.cell (p := ⟨b, o + k * 3 + 2, none⟩) hb).trans hc2
      obtain ⟨c, B⟩ := R.both
      obtain ⟨g, cap, hv, RU⟩ := B.row
      subst hv
      clear hc0 hc1 hc2 hmk
      have hbs : w.heap.size + 1 ≤ (wr.alloc (.cells #[.int .i64 K, .int .i64 I, .int .u64 y] 36)).heap.size := by have := R.lt; simp; omega
      go_wp2_with (first
        | (go_at_call 10; refine (do_any _ (w.heap.size + 1) w.heap.size g cap n c hbs (by omega) (B.at_.alloc _) (RU.alloc _) (by omega) (by omega) B.bnd K I y hy).mono ?_; rintro e w2 hd; obtain ⟨c2, v2, rfl, B2⟩ := hd; obtain ⟨g2, cap2, hv2, R2⟩ := B2.row; subst hv2)
        | (go_at_call 11; refine (all_some _ _ _ _ B2.at_ (by omega) (by omega)).mono ?_; rintro e w3 ⟨v3, rfl, ho⟩; obtain ⟨g3, cap3, hv3, R3, hg3⟩ := ho; subst hv3; have R23 := R2.grown hg3 (by simp)))
      go_loopw [12, 56] (fun r i wx => ∃ j : Nat, i = .int .i64 j ∧ j ≤ n ∧ r = .int .u64 (sumW c2 j) ∧ ∃ m, wx = w3.drewN m) (fun _ i _ => n - (intOf i).toNat)
      case atStart => exact ⟨0, rfl, Nat.zero_le _, rfl, 0, rfl⟩
      case round =>
        obtain ⟨j, rfl, hj, rfl, m, rfl⟩ := hrel
        by_cases hlt2 : j < n
        · have x1 := R3.cell j hlt2
          have x2 := R23.cell j hlt2
          go_wp2
          go_quiet (fail)
          go_wp2
          go_roundw
          case rel => exact ⟨j + 1, by go_num, by omega, rfl, _, rfl⟩
          case measure => simp [intOf]; omega
        · have e : j = n := by omega
          subst e
          have hM4 := ((B2.at_.grown hg3 (by simp)).drewN m)
          go_wp2_with (go_at_call 12; refine (sum_some _ _ _ _ hM4 (by omega) (by omega)).mono ?_; rintro e w4 ⟨rfl, hg4⟩)
          have RE := rel_end R hlt B2 R2 hg3 hg4
          clear R B B2 R2 hg3 hg4 R3 R23 hM4
          go_roundw
          case rel => exact ⟨k + 1, by go_num, RE⟩
          case measure => simp [intOf]; omega
    · obtain ⟨c, B⟩ := R.both
      go_wp2_with (first
        | (go_at_call 13; refine (len_some _ _ _ _ B.at_).mono ?_; rintro e w' ⟨rfl, rfl⟩)
        | (go_at_call 6; refine (lives_true _).mono ?_; rintro e w' ⟨rfl, hn⟩))
      go_ret
      exact ⟨rfl, R.bel.trans ((below_nob hn).mono R.bel.size)⟩

theorem walk (a0 : Int) (a1 : Option Addr) (len1 cap1 : Nat) (w : World) (hops : IsOps w a1 len1) :
    Calls Try.prog 4 #[.int .i64 a0, .slice a1 len1 cap1] w fun e w' => e = .returned (.bool true) ∧ Below w.heap.size w w' := by
  by_cases h : a0 < 1 ∨ 16 < a0 ∨ 200 < (len1 : Int)
  · exact walk_lives a0 a1 len1 cap1 w h
  · obtain ⟨n, rfl⟩ : ∃ n : Nat, a0 = (n : Int) := ⟨a0.toNat, by omega⟩
    exact walk_main n a1 len1 cap1 w (by omega) (by omega) (by omega) hops

/-! ### The row's step -/
set_option maxRecDepth 100000 in
theorem lifted (os : Os) (started : os.Started) (H : Type) (enc : TypeId × Value → H) :
    ReturnsInHanded {} Try.checked os 4 .any (Rows.meterPlaysSpec.pre6 enc Try.prog Try.f4 Rows.meterPlaysRow.domain false) (Rows.meterPlaysSpec.post enc Try.prog Try.f4 false true false false) := by
  refine returnsInHanded_of_change (C := Try.checked) own started (by kernel_rfl) Try.func4
    (ChangeSpec.witness6 (enc := enc) (C := Try.checked) false ⟨#[], #[.int .i64 0, .slice none 0 0], []⟩ 8 (by kernel_rfl) (by kernel_rfl) (by kernel_rfl) (by kernel_rfl)) ?_
  intro W base args ds gs before hval0 hW hcnd _
  have hval : ∀ (j : Nat) t v, Try.f4.params[j]? = some t → args[j]? = some v → Value.okWide Try.prog W .any base t v := hval0
  have hW' := hW
  obtain ⟨p, q, hA0, hV, rfl, hfz, hnd⟩ := hW
  have hA : DataW.TrodAll enc Try.prog W 0 (fun _ => true) true Try.f4.params.toList args.toList ds p := hA0
  rw [Try.params4] at hA hval
  obtain ⟨v0, vs0, d0, ds0, p0, q0, hargs, rfl, rfl, h0, r0⟩ := trodAll_cons hA
  obtain ⟨v1, vs1, d1, ds1, p1, q1, rfl, rfl, rfl, h1, r1⟩ := trodAll_cons r0
  obtain ⟨rfl, rfl, rfl⟩ := trodAll_nil r1
  obtain rfl : args = #[v0, v1] := by cases args; simp_all
  obtain ⟨rfl, rfl⟩ := trodVars_none hV
  obtain ⟨a0, rfl, rfl, rfl, w0⟩ := open_int Try.underlying3 (hval 0 3 v0 rfl rfl) h0
  obtain ⟨a1, len1, cap1, rfl⟩ := okWide_slice Try.underlying33 (hval 1 33 v1 rfl rfl)
  have k1 := h1
  have lt1 : ∀ x ∈ p1, x.block < W.heap.size := by obtain ⟨m, hm⟩ := k1; exact DataW.trod_lt m _ _ _ hm
  have hops : IsOps W a1 len1 := by obtain ⟨fuel, hf⟩ := h1; exact isOps hf
  clear hA0 hval0
  refine (walk a0 a1 len1 cap1 W hops).mono fun e W' ⟨he, bel⟩ => ?_
  subst he
  exact ⟨_, rfl, _, _, _, [], _, [], hW', trodAll_mk1 (shut_bool Try.underlying4 _), (trodAll_cons_mk (shut_int Try.underlying3 w0) (trodAll_cons_mk (Below.trod laidOut (by kernel_rfl) (of_decide_eq_true (by kernel_rfl)) k1 bel lt1) trodAll_mk0)), rfl, bel.frame _, fun h => by cases h⟩

theorem over : Rows.meterPlaysRow.holds Try.pinned (OpenSpec.ofChange Rows.meterPlaysSpec) :=
  OpenClaim.holds_of_wide 4 Try.f4 rfl rfl rfl rfl rfl rfl rfl ⟨rfl, rfl, rfl, rfl, rfl⟩ rfl rfl rfl rfl rfl (by kernel_rfl) Try.func4 (by kernel_rfl)
    (of_decide_eq_true (by kernel_rfl)) (by unfold Func.isWrapper; first | (rw [if_pos (by decide +kernel)]; kernel_rfl) | (rw [if_neg (by decide +kernel)]; exact ⟨rfl, rfl⟩))
    (fun os started H enc _ => lifted os started H enc)

/-- The statement. -/
theorem proved : Rows.MeterPlaysSaid := over
#print axioms proved
end Go.Proofs.Ytimicedinjacaaa.meterPlays
