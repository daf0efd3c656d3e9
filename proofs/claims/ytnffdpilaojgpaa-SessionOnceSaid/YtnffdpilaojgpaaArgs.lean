/-
  What came in: calls, each with a reply.
-/
import Derived.Test.YtnffdpilaojgpaaLives
namespace Go.Proofs.Ytnffdpilaojgpaa
set_option linter.unusedVariables false
set_option linter.unusedSimpArgs false
open Go.ChangeShapes Go.WideShapes Go.ChangeAt Go.RowKit Go.Maps Go.Proofs.YtnffdpilaojgpaaW.PrintWords Go.Proofs.YtnffdpilaojgpaaW.PrintMore Go.Proofs.Ytnffdpilaojgpaa.PSessionOnce Go.Proofs.Ytnffdpilaojgpaa.fmap

theorem cells2 : Try.prog.cellsOf 2 = 1 := by kernel_rfl
theorem cells3 : Try.prog.cellsOf 3 = 1 := by kernel_rfl
theorem cells29 : Try.prog.cellsOf 29 = 1 := by kernel_rfl
theorem cells30 : Try.prog.cellsOf 30 = 1 := by kernel_rfl
theorem cells32 : Try.prog.cellsOf 32 = 9 := by kernel_rfl
theorem cells33 : Try.prog.cellsOf 33 = 1 := by kernel_rfl
theorem cells35 : Try.prog.cellsOf 35 = 14 := by kernel_rfl
theorem cells37 : Try.prog.cellsOf 37 = 17 := by kernel_rfl

/-- A call's cells. -/
abbrev oc (x : S37) (A : Option Addr) (c : Nat) : List Value := [.int .i64 x.f0, .int .u64 x.f1, .int .u64 x.f2, .int .i64 x.f3.f0, .int .i64 x.f3.f1, .int .u64 x.f3.f2.f0, .int .i64 x.f3.f2.f1, .int .i64 x.f3.f2.f2, .int .i64 x.f3.f2.f3, .int .u64 x.f3.f2.f4, .int .i64 x.f3.f2.f5, .int .i64 x.f3.f2.f6, .int .i64 x.f3.f2.f7, .int .i64 x.f3.f2.f8, .slice A x.f3.f3.length c, .int .u64 x.f3.f4, .int .i64 x.f3.f5]

section
variable {H : Type} {enc : TypeId × Value → H} {w : World} {base : Nat} {spare : Nat → Bool} {held : Bool} {fuel : Nat}
theorem u64s_in {a : Option Addr} {len cap : Nat} {x : DataW H × List MemPlace} (h : DataW.trod enc Try.prog w base spare held fuel 33 [.slice a len cap] = some x) : ∃ l : List Int, l.length = len ∧ l.length ≤ cap ∧ UC w a l := by
  obtain ⟨hlc, hcm, _, hel⟩ := opens.slice_elems Try.underlying33 (by rw [cells29]; omega) h
  have he : ∀ i : Nat, ∃ n : Int, i < len → ∃ b o, a = some ⟨b, o, none⟩ ∧ w.cell? ⟨b, o + i, none⟩ = some (.int .u64 n) := by
    intro i
    by_cases hi : i < len
    · obtain ⟨b, o, ha, cs, n, y, hl, hc, ht⟩ := hel i hi
      rw [cells29] at hc hl
      obtain ⟨v, hv, hcell⟩ := hc 0 (by omega)
      obtain ⟨u, rfl⟩ : ∃ u, cs = [u] := by
        match cs, hl with
        | [u], _ => exact ⟨u, rfl⟩
      obtain ⟨z, hz, _, _⟩ := DataW.trod_int Try.underlying29 ht
      cases hz
      cases hv
      refine ⟨z, fun _ => ⟨b, o, ha, ?_⟩⟩
      simpa using hcell
    · exact ⟨0, fun h => absurd h hi⟩
  refine ⟨(List.range len).map (fun i => Classical.choose (he i)), by simp, by simpa using hlc, ?_⟩
  rw [UC_iff]
  refine ⟨by unfold maxLen at hcm; simp; omega, fun h0 => ?_⟩
  have h0' : 0 < len := by simpa using h0
  obtain ⟨b, o, ha, _⟩ := Classical.choose_spec (he 0) h0'
  refine ⟨⟨b, o, none⟩, ha, fun j hj => ?_⟩
  have hj' : j < len := by simpa using hj
  obtain ⟨b', o', ha', hc'⟩ := Classical.choose_spec (he j) hj'
  rw [ha] at ha'
  cases ha'
  rw [Addr.add_lit]
  simpa using hc'

theorem op_in {cs : List Value} {y : DataW H × List MemPlace} (hl : cs.length = 17) (ht : DataW.trod enc Try.prog w base spare held fuel 37 cs = some y) :
    ∃ (x : S37) (A : Option Addr) (c : Nat), cs = oc x A c ∧ UC w A x.f3.f3 ∧ x.f3.f3.length ≤ c ∧ (Lit.int .u64 x.f1).wf = true ∧ (Lit.int .u64 x.f2).wf = true := by
  obtain ⟨m0, e0, w0⟩ := opens.field_int Try.underlying37 ht 0 _ rfl Try.underlying3 cells3
  obtain ⟨m1, e1, w1⟩ := opens.field_int Try.underlying37 ht 1 _ rfl Try.underlying29 cells29
  obtain ⟨m2, e2, w2⟩ := opens.field_int Try.underlying37 ht 2 _ rfl Try.underlying29 cells29
  obtain ⟨n3, y3, h3⟩ := opens.struct_field Try.underlying37 ht 3 _ rfl
  replace h3 : DataW.trod enc Try.prog w base spare held n3 35 ((cs.drop 3).take (Try.prog.cellsOf 35)) = some y3 := h3
  rw [cells35] at h3
  have r : ∀ k, k < 14 → ((cs.drop 3).take 14)[k]? = cs[3 + k]? := fun k hk => by rw [List.getElem?_take, if_pos hk, List.getElem?_drop]
  obtain ⟨c0, g0, _⟩ := opens.field_int Try.underlying35 h3 0 _ rfl Try.underlying30 cells30
  obtain ⟨c1, g1, _⟩ := opens.field_int Try.underlying35 h3 1 _ rfl Try.underlying2 cells2
  obtain ⟨n4, y4, h4⟩ := opens.struct_field Try.underlying35 h3 2 _ rfl
  replace h4 : DataW.trod enc Try.prog w base spare held n4 32 ((((cs.drop 3).take 14).drop 2).take (Try.prog.cellsOf 32)) = some y4 := h4
  rw [cells32] at h4
  have r2 : ∀ k, k < 9 → ((((cs.drop 3).take 14).drop 2).take 9)[k]? = cs[5 + k]? := fun k hk => by rw [List.getElem?_take, if_pos hk, List.getElem?_drop, r (2 + k) (by omega), ← Nat.add_assoc]
  obtain ⟨t0, q0, _⟩ := opens.field_int Try.underlying32 h4 0 _ rfl Try.underlying29 cells29
  obtain ⟨t1, q1, _⟩ := opens.field_int Try.underlying32 h4 1 _ rfl Try.underlying3 cells3
  obtain ⟨t2, q2, _⟩ := opens.field_int Try.underlying32 h4 2 _ rfl Try.underlying3 cells3
  obtain ⟨t3, q3, _⟩ := opens.field_int Try.underlying32 h4 3 _ rfl Try.underlying3 cells3
  obtain ⟨t4, q4, _⟩ := opens.field_int Try.underlying32 h4 4 _ rfl Try.underlying29 cells29
  obtain ⟨t5, q5, _⟩ := opens.field_int Try.underlying32 h4 5 _ rfl Try.underlying2 cells2
  obtain ⟨t6, q6, _⟩ := opens.field_int Try.underlying32 h4 6 _ rfl Try.underlying2 cells2
  obtain ⟨t7, q7, _⟩ := opens.field_int Try.underlying32 h4 7 _ rfl Try.underlying2 cells2
  obtain ⟨t8, q8, _⟩ := opens.field_int Try.underlying32 h4 8 _ rfl Try.underlying3 cells3
  obtain ⟨n5, y5, h5⟩ := opens.struct_field Try.underlying35 h3 3 _ rfl
  replace h5 : DataW.trod enc Try.prog w base spare held n5 33 ((((cs.drop 3).take 14).drop 11).take (Try.prog.cellsOf 33)) = some y5 := h5
  rw [cells33] at h5
  obtain ⟨v, hv⟩ : ∃ v, cs[14]? = some v := ⟨cs[14]'(by omega), List.getElem?_eq_getElem _⟩
  have hv1 : (((cs.drop 3).take 14).drop 11).take 1 = [v] := by
    apply List.ext_getElem?
    intro k
    match k with
    | 0 => rw [List.getElem?_take, if_pos (by omega), List.getElem?_drop, r 11 (by omega)]; exact hv
    | k + 1 => rw [List.getElem?_take, if_neg (by omega)]; rfl
  rw [hv1] at h5
  obtain ⟨c4, g4, _⟩ := opens.field_int Try.underlying35 h3 4 _ rfl Try.underlying29 cells29
  obtain ⟨c5, g5, _⟩ := opens.field_int Try.underlying35 h3 5 _ rfl Try.underlying3 cells3
  obtain ⟨A, len, cap, rfl⟩ : ∃ A len cap, v = .slice A len cap := by
    rcases Go.Deep.open_slice Try.underlying33 h5 with ⟨e, _⟩ | ⟨a', l', c', _, _, _, _, e, _⟩
    · simp at e
      exact ⟨_, _, _, e⟩
    · simp at e
      exact ⟨_, _, _, e⟩
  obtain ⟨l, rfl, hlc, hU⟩ := u64s_in h5
  refine ⟨⟨m0, m1, m2, ⟨c0, c1, ⟨t0, t1, t2, t3, t4, t5, t6, t7, t8⟩, l, c4, c5⟩⟩, A, cap, ?_, hU, hlc, w1, w2⟩
  apply List.ext_getElem?
  intro k
  match k with
  | 0 => exact e0
  | 1 => exact e1
  | 2 => exact e2
  | 3 => exact (r 0 (by omega)).symm.trans g0
  | 4 => exact (r 1 (by omega)).symm.trans g1
  | 5 => exact (r2 0 (by omega)).symm.trans q0
  | 6 => exact (r2 1 (by omega)).symm.trans q1
  | 7 => exact (r2 2 (by omega)).symm.trans q2
  | 8 => exact (r2 3 (by omega)).symm.trans q3
  | 9 => exact (r2 4 (by omega)).symm.trans q4
  | 10 => exact (r2 5 (by omega)).symm.trans q5
  | 11 => exact (r2 6 (by omega)).symm.trans q6
  | 12 => exact (r2 7 (by omega)).symm.trans q7
  | 13 => exact (r2 8 (by omega)).symm.trans q8
  | 14 => exact hv
  | 15 => exact (r 12 (by omega)).symm.trans g4
  | 16 => exact (r 13 (by omega)).symm.trans g5
  | k + 17 => simp [hl]

/-- The calls that came in, where each lies. -/
def IsOps (w : World) (a : Option Addr) (len : Nat) : Prop :=
  len ≤ 9223372036854775807 ∧ ∀ i, i < len → ∃ b o x A c, a = some ⟨b, o, none⟩ ∧ (∀ j v, (oc x A c)[j]? = some v → w.cell? ⟨b, o + i * 17 + j, none⟩ = some v) ∧ UC w A x.f3.f3 ∧ x.f3.f3.length ≤ c ∧ (Lit.int .u64 x.f1).wf = true ∧ (Lit.int .u64 x.f2).wf = true
theorem isOps {a : Option Addr} {len cap : Nat} {x : DataW H × List MemPlace} (h : DataW.trod enc Try.prog w base spare held fuel 22 [.slice a len cap] = some x) : IsOps w a len := by
  obtain ⟨hlc, hcm, _, hel⟩ := opens.slice_elems Try.underlying22 (by rw [cells37]; omega) h
  refine ⟨by unfold maxLen at hcm; omega, fun i hi => ?_⟩
  obtain ⟨b, o, rfl, cs, n, y, hl, hc, ht⟩ := hel i hi
  rw [cells37] at hc hl
  obtain ⟨x, A, c, rfl, hU, hlc', w1, w2⟩ := op_in hl ht
  refine ⟨b, o, x, A, c, rfl, fun j v hv => ?_, hU, hlc', w1, w2⟩
  have hj : j < 17 := by
    have := (List.getElem?_eq_some_iff.1 hv).1
    simpa using this
  obtain ⟨v', hv', hcell⟩ := hc j hj
  rw [hv] at hv'
  cases hv'
  exact hcell
end

/-- The cells of one call. -/
structure OpAt (w : World) (b o : Nat) (x : S37) (A : Option Addr) (c : Nat) : Prop where
  cell : ∀ j v, (oc x A c)[j]? = some v → w.cell? ⟨b, o + j, none⟩ = some v
  lt : b < w.heap.size
theorem OpAt.below {w w' : World} {b o : Nat} {x : S37} {A : Option Addr} {c : Nat} (h : OpAt w b o x A c) (hb : Below w.heap.size w w') : OpAt w' b o x A c :=
  ⟨fun j v hv => (hb.cell (p := ⟨b, o + j, none⟩) h.lt).trans (h.cell j v hv), Nat.lt_of_lt_of_le h.lt hb.size⟩

/-- What light tells. -/
def LightSays (w : World) (len : Nat) (a : Option Addr) (e : Ending) (w' : World) : Prop :=
  ∃ b : Bool, e = .returned (.bool b) ∧ Below w.heap.size w w' ∧ (b = true → len ≤ 100 ∧ ∀ i, i < len → ∃ b o x A c, a = some ⟨b, o, none⟩ ∧ OpAt w b (o + i * 17) x A c ∧ UC w A x.f3.f3 ∧ x.f3.f3.length ≤ c ∧ x.f3.f3.length ≤ 200 ∧ (Lit.int .u64 x.f1).wf = true ∧ (Lit.int .u64 x.f2).wf = true)

theorem light1 (w : World) (x : S35) (A : Option Addr) (c : Nat) (h : UC w A x.f3) (hc : x.f3.length ≤ c) :
    Calls Try.prog 25 #[rv x A c] w fun e w' => e = .returned (.bool (decide ((x.f3.length : Int) ≤ 200))) ∧ Below w.heap.size w w' :=
  curfewlaw19_Light.calls x.f0 x.f1 x.f2.f0 x.f2.f1 x.f2.f2 x.f2.f3 x.f2.f4 x.f2.f5 x.f2.f6 x.f2.f7 x.f2.f8 A c x.f3 x.f4 x.f5 _ w h hc rfl

set_option maxRecDepth 100000 in
set_option maxHeartbeats 800000 in
theorem light_ok (w : World) (a : Option Addr) (len cap : Nat) (h : IsOps w a len) :
    Calls Try.prog 7 #[.slice a len cap] w (LightSays w len a) := by
  have hmx := h.1
  have HI := Lib.hid h
  have hu37 := Try.underlying37
  clear h
  go_enter Try.func7, Try.ntmps7
  go_wp2
  go_loopw [7] (fun i wr => ∃ k : Nat, i = .int .i64 k ∧ k ≤ len ∧ Below w.heap.size w wr ∧ ∀ i, i < k → ∃ b o x A c, a = some ⟨b, o, none⟩ ∧ OpAt w b (o + i * 17) x A c ∧ UC w A x.f3.f3 ∧ x.f3.f3.length ≤ c ∧ x.f3.f3.length ≤ 200 ∧ (Lit.int .u64 x.f1).wf = true ∧ (Lit.int .u64 x.f2).wf = true) (fun i _ => len - (intOf i).toNat)
  case atStart => exact ⟨0, rfl, Nat.zero_le _, Below.refl _ _, fun i hi => absurd hi (Nat.not_lt_zero _)⟩
  case round =>
    obtain ⟨k, rfl, hk, hB, hall⟩ := hrel
    have HA := Lib.hid hall
    clear hall
    by_cases hlt : k < len
    · obtain ⟨b, o, x, A, c, rfl, hcell, hU, hlc, w1, w2⟩ := HI.out.2 k hlt
      have hO : OpAt w b (o + k * 17) x A c := ⟨hcell, World.block_lt_of_cell? _ _ (hcell 0 _ rfl)⟩
      have HO := Lib.hid (hO.below hB)
      have d0 : wr.cell? ⟨b, o + k * 17, none⟩ = some (.int .i64 x.f0) := HO.out.cell 0 _ rfl
      have d1 := HO.out.cell 1 _ rfl
      have d2 := HO.out.cell 2 _ rfl
      have d3 := HO.out.cell 3 _ rfl
      have d4 := HO.out.cell 4 _ rfl
      have d5 := HO.out.cell 5 _ rfl
      have d6 := HO.out.cell 6 _ rfl
      have d7 := HO.out.cell 7 _ rfl
      have d8 := HO.out.cell 8 _ rfl
      have d9 := HO.out.cell 9 _ rfl
      have d10 := HO.out.cell 10 _ rfl
      have d11 := HO.out.cell 11 _ rfl
      have d12 := HO.out.cell 12 _ rfl
      have d13 := HO.out.cell 13 _ rfl
      have d14 := HO.out.cell 14 _ rfl
      have d15 := HO.out.cell 15 _ rfl
      have d16 := HO.out.cell 16 _ rfl
      have HO0 := Lib.hid hO
      have HU := Lib.hid hU
      have HW := Lib.hid (And.intro w1 w2)
      clear hO hcell hU w1 w2
      by_cases h2 : x.f3.f3.length ≤ 200
      · have hd : decide ((x.f3.f3.length : Int) ≤ 200) = true := by simp; omega
        have HC := fun w1 hb => Lib.hid (light1 w1 x.f3 A c (HU.out.below hb) hlc)
        rw [hd] at HC
        clear hd
        go_wp2_with (go_at_call 25; ((with_reducible refine (HC _ ?bel).out.mono ?_); (case bel => exact hB.trans ((alloc_below _ _).mono hB.size)); rintro e w3 ⟨rfl, hb3⟩))
        have hB3 := (hB.trans ((alloc_below wr _).mono hB.size)).trans (hb3.mono (by have := hB.size; simp; omega))
        go_roundw
        case rel =>
          refine ⟨k + 1, by go_num, hlt, hB3, fun i hi => ?_⟩
          by_cases e : i < k
          · exact HA.out i e
          · obtain rfl : i = k := by omega
            exact ⟨b, o, x, A, c, rfl, HO0.out, HU.out, hlc, h2, HW.out.1, HW.out.2⟩
        case measure => simp [intOf]; omega
      · have hd : decide ((x.f3.f3.length : Int) ≤ 200) = false := by simp; omega
        have HC := fun w1 hb => Lib.hid (light1 w1 x.f3 A c (HU.out.below hb) hlc)
        rw [hd] at HC
        clear hd
        go_wp2_with (go_at_call 25; (with_reducible refine (HC _ ?bel).out.mono ?_); (case bel => exact hB.trans ((alloc_below _ _).mono hB.size)); rintro e w3 ⟨rfl, hb3⟩)
        have hB3 := (hB.trans ((alloc_below wr _).mono hB.size)).trans (hb3.mono (by have := hB.size; simp; omega))
        go_ret
        exact ⟨false, rfl, hB3, fun e => by cases e⟩
    · have e : k = len := by omega
      subst e
      go_wp2
      go_ret
      exact ⟨_, rfl, hB, fun e => ⟨by simp at e; omega, HA.out⟩⟩
end Go.Proofs.Ytnffdpilaojgpaa
