/-
  What came in: a slice of ints, a slice of what was said; that what is decided stays so.
-/
import Derived.Test.YtibdjmmhdggpfaaPoll4
import Derived.Test.YtibdjmmhdggpfaaOpen
namespace Go.Proofs.Ytibdjmmhdggpfaa
set_option linter.unusedVariables false
set_option linter.unusedSimpArgs false
open Go.ChangeShapes Go.WideShapes Go.ChangeAt Go.RowKit Go.Proofs.Ytibdjmmhdggpfaa.pure

theorem cells3 : Try.prog.cellsOf 3 = 1 := by kernel_rfl
theorem cells4 : Try.prog.cellsOf 4 = 1 := by kernel_rfl
theorem cells31 : Try.prog.cellsOf 31 = 2 := by kernel_rfl

section
variable {H : Type} {enc : TypeId × Value → H} {w : World} {base : Nat} {spare : Nat → Bool} {held : Bool} {fuel : Nat} {a : Option Addr} {len cap : Nat} {x : DataW H × List MemPlace}
theorem ints_in (h : DataW.trod enc Try.prog w base spare held fuel 22 [.slice a len cap] = some x) : ∃ l : List Int, l.length = len ∧ l.length ≤ cap ∧ IntC w a l ∧ l.length ≤ 9223372036854775807 := by
  obtain ⟨hlc, hcm, _, hel⟩ := opens.slice_elems Try.underlying22 (by rw [cells3]; omega) h
  have he : ∀ i : Nat, ∃ n : Int, i < len → ∃ b o, a = some ⟨b, o, none⟩ ∧ w.cell? ⟨b, o + i, none⟩ = some (.int .i64 n) := by
    intro i
    by_cases hi : i < len
    · obtain ⟨b, o, ha, cs, n, y, hl, hc, ht⟩ := hel i hi
      rw [cells3] at hc hl
      obtain ⟨v, hv, hcell⟩ := hc 0 (by omega)
      obtain ⟨u, rfl⟩ : ∃ u, cs = [u] := by
        match cs, hl with
        | [u], _ => exact ⟨u, rfl⟩
      obtain ⟨z, hz, _, _⟩ := DataW.trod_int Try.underlying3 ht
      cases hz
      cases hv
      refine ⟨z, fun _ => ⟨b, o, ha, ?_⟩⟩
      simpa using hcell
    · exact ⟨0, fun h => absurd h hi⟩
  refine ⟨(List.range len).map (fun i => Classical.choose (he i)), by simp, by simpa using hlc, ?_, by unfold maxLen at hcm; simp; omega⟩
  rw [IntC_iff]
  have hmax : (maxLen : Nat) ≤ 9223372036854775807 := by unfold maxLen; omega
  refine ⟨by simp; omega, fun h0 => ?_⟩
  have h0' : 0 < len := by simpa using h0
  obtain ⟨b, o, ha, _⟩ := Classical.choose_spec (he 0) h0'
  refine ⟨⟨b, o, none⟩, ha, fun j hj => ?_⟩
  have hj' : j < len := by simpa using hj
  obtain ⟨b', o', ha', hc'⟩ := Classical.choose_spec (he j) hj'
  rw [ha] at ha'
  cases ha'
  rw [Addr.add_lit]
  simpa using hc'

/-- What somebody says, where each lies. -/
def IsSaid (w : World) (a : Option Addr) (len : Nat) : Prop :=
  len ≤ 9223372036854775807 ∧ ∀ i, i < len → ∃ b o x ok, a = some ⟨b, o, none⟩ ∧ w.cell? ⟨b, o + i * 2, none⟩ = some (.int .i64 x) ∧ w.cell? ⟨b, o + i * 2 + 1, none⟩ = some (.bool ok)
theorem isSaid (h : DataW.trod enc Try.prog w base spare held fuel 23 [.slice a len cap] = some x) : IsSaid w a len := by
  obtain ⟨hlc, hcm, _, hel⟩ := opens.slice_elems Try.underlying23 (by rw [cells31]; omega) h
  refine ⟨by unfold maxLen at hcm; omega, fun i hi => ?_⟩
  obtain ⟨b, o, rfl, cs, n, y, hl, hc, ht⟩ := hel i hi
  rw [cells31] at hc
  obtain ⟨K, hK, _⟩ := opens.field_int Try.underlying31 ht 0 _ rfl Try.underlying3 cells3
  obtain ⟨I, hI⟩ := opens.field_bool Try.underlying31 ht 1 _ rfl Try.underlying4 cells4
  replace hK : cs[0]? = some (.int .i64 K) := hK
  replace hI : cs[1]? = some (.bool I) := hI
  obtain ⟨v0, e0, c0⟩ := hc 0 (by omega)
  obtain ⟨v1, e1, c1⟩ := hc 1 (by omega)
  rw [hK] at e0
  rw [hI] at e1
  cases e0
  cases e1
  exact ⟨b, o, K, I, rfl, c0, c1⟩
end

theorem rowp_mono {p q : Int → Bool} (h : ∀ x, p x = true → q x = true) : (rowp p).length ≤ (rowp q).length := by
  unfold rowp
  rw [← List.countP_eq_length_filter, ← List.countP_eq_length_filter]
  exact List.countP_mono_left fun x _ => h x
theorem who_grows {said : Int → Int} {x : Int} (h0 : said x = 0) (ok : Bool) {what : Int} (hw : what ≠ 0) : (who said what).length ≤ (who (note said x ok) what).length := by
  unfold who
  refine rowp_mono fun y hy => ?_
  simp only [decide_eq_true_eq] at hy ⊢
  unfold note
  rw [if_neg]
  · exact hy
  · rintro rfl
    exact hw (by rw [← hy, h0])
theorem both_len {mem : List Int} {said : Int → Int} (h : Ok mem said) : (who said 1).length + (who said 2).length ≤ mem.length := by
  have := nodup_len (who said 1 ++ who said 2) mem (List.nodup_append.2 ⟨(rowp_sorted _).imp (fun h => by omega), (rowp_sorted _).imp (fun h => by omega), fun a ha b hb e => by
    subst e
    have h1 := (mem_who.1 ha).2
    have h2 := (mem_who.1 hb).2
    omega⟩) (fun x hx => by
    rcases List.mem_append.1 hx with hx | hx
    · exact h.mem x (by rw [(mem_who.1 hx).2]; decide)
    · exact h.mem x (by rw [(mem_who.1 hx).2]; decide))
  simpa using this
theorem say_ok {mem : List Int} {said : Int → Int} (h : Ok mem said) (x : Int) (ok : Bool) : Ok mem (say mem said x ok) := by
  by_cases hx : counts mem said x = true
  · rw [say_yes hx]
    have hxx : x ∈ mem ∧ said x = 0 := by unfold counts at hx; simpa using hx
    exact h.note hxx.1 ok
  · rw [say_no (by simpa using hx)]
    exact h
/-- How often the map was stored to, at most. -/
def cd (said : Int → Int) : Nat := 2 * ((who said 1).length + (who said 2).length)
theorem cd_le {mem : List Int} {said : Int → Int} (h : Ok mem said) (hm : snd mem = true) : cd said ≤ 14 := by
  have := both_len h
  have := (snd_length hm).2
  unfold cd
  omega
theorem who_grown {said : Int → Int} {x : Int} (h0 : said x = 0) (hx : 0 ≤ x ∧ x ≤ 6) (ok : Bool) {what : Int} (hw : what = if ok then 1 else 2) : (who said what).length + 1 ≤ (who (note said x ok) what).length := by
  have hw0 : what ≠ 0 := by rw [hw]; cases ok <;> decide
  refine nodup_len (x :: who said what) _ (List.nodup_cons.2 ⟨fun h => hw0 (by rw [← (mem_who.1 h).2, h0]), (rowp_sorted _).imp (fun h => by omega)⟩) (fun y hy => ?_)
  rw [mem_who]
  unfold note
  rcases List.mem_cons.1 hy with rfl | hy
  · exact ⟨hx, by rw [if_pos rfl, hw]⟩
  · obtain ⟨h1, h2⟩ := mem_who.1 hy
    refine ⟨h1, ?_⟩
    rw [if_neg (by rintro rfl; exact hw0 (by rw [← h2, h0])), h2]
theorem cd_note {said : Int → Int} {x : Int} (h0 : said x = 0) (hx : 0 ≤ x ∧ x ≤ 6) (ok : Bool) : cd said + 2 ≤ cd (note said x ok) := by
  have h1 := who_grows h0 ok (what := 1) (by decide)
  have h2 := who_grows h0 ok (what := 2) (by decide)
  unfold cd
  cases ok with
  | true =>
    have := who_grown h0 hx true (what := 1) rfl
    omega
  | false =>
    have := who_grown h0 hx false (what := 2) rfl
    omega
theorem pnotes (w : World) (b bm : Nat) (A : Option Addr) (c : Nat) (mem : List Int) (said : Int → Int) (h : PAt w b bm A c mem said (cd said)) (x : Int) (ok : Bool) :
    Calls Try.prog 15 #[.pointer (some ⟨b, 0, none⟩), .int .i64 x, .bool ok] w fun e w' => e = .returned (.bool (counts mem said x)) ∧ PAt w' b bm A c mem (say mem said x ok) (cd (say mem said x ok)) ∧ w.grownBy w' (some bm) := by
  by_cases hx : counts mem said x = true
  · have hxx : x ∈ mem ∧ said x = 0 := by unfold counts at hx; simpa using hx
    have hn := ((snd_iff mem).1 h.sndT).2.2 x hxx.1
    refine (pnote_yes w b bm A c mem said _ h (by have := cd_le h.ok h.sndT; omega) x ok hx).mono fun e w' he => ?_
    rw [say_yes hx, hx]
    exact ⟨he.1, he.2.1.any_kept (w' := w') (cd_note hxx.2 hn ok), he.2.2⟩
  · have hx' : counts mem said x = false := by simpa using hx
    refine (pnote_no w b bm A c mem said _ h x ok hx').mono fun e w' ⟨he, hb⟩ => ?_
    rw [say_no hx', hx']
    exact ⟨he, h.below hb, (nob_iff.1 hb).but _⟩

/-- A poll at the head of a round. -/
structure Rel (w : World) (b bm : Nat) (A : Option Addr) (c : Nat) (mem : List Int) (said : Int → Int) (wr : World) : Prop where
  at_ : PAt wr b bm A c mem said (cd said)
  bel : Below w.heap.size w wr
  hbm : w.heap.size ≤ bm
theorem Rel.step {w : World} {b bm : Nat} {A : Option Addr} {c : Nat} {mem : List Int} {said said' : Int → Int} {wr w' : World} {o : Obj} (R : Rel w b bm A c mem said wr)
    (h : PAt w' b bm A c mem said' (cd said')) (hg : (wr.alloc o).grownBy w' (some bm)) : Rel w b bm A c mem said' w' where
  at_ := h
  bel := by
    have b1 := R.bel.alloc R.bel.size o
    exact b1.grown hg b1.size (by intro k e; cases e; exact R.hbm)
  hbm := R.hbm
theorem Rel.below {w : World} {b bm : Nat} {A : Option Addr} {c : Nat} {mem : List Int} {said : Int → Int} {wr w' : World} (R : Rel w b bm A c mem said wr) (h : Below wr.heap.size wr w') : Rel w b bm A c mem said w' :=
  ⟨R.at_.below h, R.bel.trans (h.mono R.bel.size), R.hbm⟩
theorem alloc_below (w : World) (o : Obj) : Below w.heap.size w (w.alloc o) := (Below.refl _ _).alloc (Nat.le_refl _) _

theorem state_stays {mem : List Int} {said : Int → Int} (h : Ok mem said) (hm : snd mem = true) (x : Int) (ok : Bool) (h1 : state mem said ≠ 1) : state mem (say mem said x ok) = state mem said := by
  by_cases hx : counts mem said x = true
  · have hxx : x ∈ mem ∧ said x = 0 := by unfold counts at hx; simpa using hx
    have g1 := who_grows hxx.2 ok (what := 1) (by decide)
    have g2 := who_grows hxx.2 ok (what := 2) (by decide)
    have hb := both_len (h.note hxx.1 ok)
    rw [say_yes hx]
    unfold state at h1 ⊢
    rw [quo_snd hm] at h1 ⊢
    split at h1
    · rename_i e
      rw [if_pos e, if_pos (by omega)]
    · split at h1
      · rename_i e1 e2
        rw [if_neg e1, if_pos e2, if_neg (by omega), if_pos (by omega)]
      · exact absurd rfl h1
  · rw [say_no (by simpa using hx)]
theorem state_range (mem : List Int) (said : Int → Int) : 1 ≤ state mem said ∧ state mem said ≤ 3 := by
  unfold state
  split
  · omega
  · split <;> omega
end Go.Proofs.Ytibdjmmhdggpfaa
