/-
  Contracts of package poll: what each function does to a poll in memory.
-/
import Derived.Test.YtibdjmmhdggpfaaSort
import Derived.Test.YtibdjmmhdggpfaaMap
import Derived.Maps.AppendAt
import Derived.Deep.RegionWith
namespace Go.Proofs.Ytibdjmmhdggpfaa
set_option linter.unusedVariables false
set_option linter.unusedSimpArgs false
open Go.RowKit Go.Maps Go.Proofs.YtibdjmmhdggpfaaW.PrintWords Go.Proofs.YtibdjmmhdggpfaaW.PrintMore Go.Proofs.Ytibdjmmhdggpfaa.PPollPlays Go.Proofs.Ytibdjmmhdggpfaa.pure Go.Proofs.Ytibdjmmhdggpfaa.fmap

theorem law3 : Keyed Try.prog 3 := int_keyed Try.underlying3
theorem zero3 (w : World) : (zeroValue 3).run Try.prog w = .ok (.int .i64 0) w := by kernel_rfl
theorem infoI : (Try.prog.info? 3).map (fun i => (i.zero, i.size, i.bytes)) = some (some (.int .i64 0), 1, 8) := by kernel_rfl

theorem IntC_iff {w : World} {A : Option Addr} {l : List Int} : IntC w A l ↔ l.length ≤ 9223372036854775807 ∧ (0 < l.length → ∃ ad, A = some ad ∧ ∀ j, ∀ h : j < l.length, w.cell? (ad.add j) = some (.int .i64 l[j])) := by
  unfold IntC Kd.C ReadsRow
  constructor
  · rintro ⟨_, h1, h2⟩
    refine ⟨h1, fun h => ?_⟩
    obtain ⟨ad, e, hc⟩ := h2 h
    refine ⟨ad, e, fun j hj => ?_⟩
    obtain ⟨c, _, hc1, hc2⟩ := hc j l[j] (by simp [hj])
    have hc1' : c = [.int .i64 l[j]] := hc1
    subst hc1'
    have := hc2 0 (.int .i64 l[j]) rfl
    have e1 : Kd.sz (Kd.int .i64) = 1 := rfl
    rw [e1] at this
    simpa using this
  · rintro ⟨h1, h2⟩
    refine ⟨rfl, h1, fun h => ?_⟩
    obtain ⟨ad, e, hc⟩ := h2 h
    refine ⟨ad, e, fun j p hp => ?_⟩
    obtain ⟨hj, rfl⟩ := List.getElem?_eq_some_iff.1 hp
    refine ⟨[.int .i64 l[j]], rfl, rfl, fun i u hu => ?_⟩
    have hi : i = 0 := by
      have := (List.getElem?_eq_some_iff.1 hu).1
      simpa using this
    subst hi
    simp at hu
    subst hu
    have e1 : Kd.sz (Kd.int .i64) = 1 := rfl
    rw [e1]
    simpa using hc j hj

theorem IntC.lt {w : World} {A : Option Addr} {l : List Int} (h : IntC w A l) (h0 : l ≠ []) : ∃ ad, A = some ad ∧ ad.block < w.heap.size ∧ ∃ c t f, w.heap[ad.block]? = some (.cells c t f) := by
  obtain ⟨ad, e, hc⟩ := (IntC_iff.1 h).2 (List.length_pos_iff.2 h0)
  have h1 := hc 0 (List.length_pos_iff.2 h0)
  have hb : (ad.add 0).block = ad.block := by simp [Addr.add]
  refine ⟨ad, e, ?_, ?_⟩
  · rw [← hb]
    exact World.block_lt_of_cell? _ _ h1
  · unfold World.cell? at h1
    rw [hb] at h1
    split at h1
    · rename_i c t f hc
      exact ⟨c, t, f, hc⟩
    · cases h1
theorem IntC.kept {w w' : World} {row : Option Nat} {A : Option Addr} {l : List Int} (h : IntC w A l) (hg : w.grownBy w' row) (hne : ∀ ad, A = some ad → row ≠ some ad.block) : IntC w' A l := by
  rw [IntC_iff] at h ⊢
  refine ⟨h.1, fun h0 => ?_⟩
  obtain ⟨ad, e, hc⟩ := h.2 h0
  refine ⟨ad, e, fun j hj => hg.cell (hc j hj) (fun e' => hne ad e ?_)⟩
  have hb : (ad.add j).block = ad.block := by unfold Addr.add; split <;> rfl
  rw [hb] at e'
  exact e'.symm
theorem IntC.below {w w' : World} {A : Option Addr} {l : List Int} (h : IntC w A l) (hb : Below w.heap.size w w') : IntC w' A l := Kd.C_below h hb
/-- A map's block is no block of cells. -/
theorem IntC.map_ne {w : World} {A : Option Addr} {l : List Int} (h : IntC w A l) (h0 : l ≠ []) {bm n : Nat} {f : Lit → Option Value} (hm : FM w Try.prog 3 bm n f) : ∀ ad, A = some ad → some bm ≠ some ad.block := by
  intro ad e e'
  obtain ⟨ad', e2, _, c, t, fr, hc⟩ := h.lt h0
  rw [e] at e2
  cases e2
  obtain ⟨es, clock, hb⟩ := hm.block
  cases e'
  rw [hb] at hc
  cases hc

theorem nob_iff {w w' : World} : Below w.heap.size w w' ↔ w.grownBy w' none :=
  ⟨fun h => ⟨h.os, h.tape, h.output, h.size, fun k hk _ => h.block k hk⟩, fun h => ⟨h.os, h.tape, h.output, h.size, fun k hk => h.block k hk (by simp)⟩⟩

/-- What a map of what was said tells. -/
def tell (said : Int → Int) : Lit → Option Value
  | .int .i64 x => if said x = 0 then none else some (.int .i64 (said x))
  | _ => none
theorem tell_put (said : Int → Int) (n v : Int) (hv : v ≠ 0) : fput (tell said) (.int .i64 n) (some (.int .i64 v)) = tell (fun x => if x = n then v else said x) := by
  funext kl
  by_cases e : kl = .int .i64 n
  · subst e
    rw [fput_same]
    simp [tell, hv]
  · rw [fput_other _ _ e]
    unfold tell
    split
    · next x =>
      have : x ≠ n := fun h => e (by rw [h])
      simp [this]
    · rfl

/-- A poll, in block b, of the members mem, in which just that was said. -/
structure PAt (w : World) (b bm : Nat) (A : Option Addr) (c : Nat) (mem : List Int) (said : Int → Int) (n : Nat) : Prop where
  blk : w.heap[b]? = some (.cells #[.slice A mem.length c, .map (some bm)] 46 (0, 0))
  memC : IntC w A mem
  cap : mem.length ≤ c
  map : FM w Try.prog 3 bm n (tell said)
  sndT : snd mem = true
  ok : Ok mem said

theorem snd_ne {mem : List Int} (h : snd mem = true) : mem ≠ [] := ((snd_iff mem).1 h).1

section
variable {w w' : World} {b bm : Nat} {A : Option Addr} {c : Nat} {mem : List Int} {said : Int → Int} {n : Nat}
theorem PAt.lt (h : PAt w b bm A c mem said n) : b < w.heap.size := lt_of_block h.blk
theorem PAt.c0 (h : PAt w b bm A c mem said n) : w.cell? ⟨b, 0, none⟩ = some (.slice A mem.length c) := by simp [World.cell?, h.blk]
theorem PAt.c1 (h : PAt w b bm A c mem said n) : w.cell? ⟨b, 1, none⟩ = some (.map (some bm)) := by simp [World.cell?, h.blk]
theorem PAt.ne (h : PAt w b bm A c mem said n) : b ≠ bm := by
  intro e
  obtain ⟨es, clock, hb⟩ := h.map.block
  rw [← e, h.blk] at hb
  cases hb
theorem PAt.kept {row : Option Nat} (h : PAt w b bm A c mem said n) (hg : w.grownBy w' row) (h1 : row ≠ some b) (h2 : row ≠ some bm) (h3 : ∀ ad, A = some ad → row ≠ some ad.block) : PAt w' b bm A c mem said n :=
  ⟨(hg.block b h.lt (fun e => h1 e.symm)).trans h.blk, h.memC.kept hg h3, h.cap, h.map.kept hg h2, h.sndT, h.ok⟩
theorem PAt.below (h : PAt w b bm A c mem said n) (hb : Below w.heap.size w w') : PAt w' b bm A c mem said n := h.kept (nob_iff.1 hb) (by simp) (by simp) (by simp)
theorem PAt.size (h : PAt w b bm A c mem said n) : mem.length ≤ 7 := (snd_length h.sndT).2
end

theorem none_nil (w : World) : Calls Try.prog 45 #[.pointer none] w fun e w' => e = .returned (.bool true) ∧ w = w' := by
  go_enter Try.func45, Try.ntmps45
  go_wp2
  go_ret
  exact ⟨rfl, rfl⟩
theorem none_some (w : World) (b bm : Nat) (h1 : w.cell? ⟨b, 1, none⟩ = some (.map (some bm))) : Calls Try.prog 45 #[.pointer (some ⟨b, 0, none⟩)] w fun e w' => e = .returned (.bool false) ∧ w = w' := by
  have q := fun (w : World) (r : Option Nat) => run_eql_map_nil (P := Try.prog) w _ _ _ r Try.underlying44
  go_enter Try.func45, Try.ntmps45
  go_wp2
  go_ret
  exact ⟨rfl, rfl⟩
theorem none_made (w : World) (b : Nat) (h1 : w.cell? ⟨b, 1, none⟩ = some (.map none)) : Calls Try.prog 45 #[.pointer (some ⟨b, 0, none⟩)] w fun e w' => e = .returned (.bool true) ∧ w = w' := by
  have q := fun (w : World) (r : Option Nat) => run_eql_map_nil (P := Try.prog) w _ _ _ r Try.underlying44
  go_enter Try.func45, Try.ntmps45
  go_wp2
  go_ret
  exact ⟨rfl, rfl⟩

/-- What a function that hands back a slice of its own leaves. -/
def Gives (w : World) (l : List Int) (e : Ending) (w' : World) : Prop := ∃ v, e = .returned v ∧ IntR w' w.heap.size v l ∧ Below w.heap.size w w'

theorem vals_get (l : List Int) (j : Nat) (u : Value) (h : (l.map (Value.int .i64))[j]? = some u) : ∃ hj : j < l.length, u = .int .i64 l[j] := by
  rw [List.getElem?_map] at h
  obtain ⟨x, hx, rfl⟩ := Option.map_eq_some_iff.1 h
  obtain ⟨hj, rfl⟩ := List.getElem?_eq_some_iff.1 hx
  exact ⟨hj, rfl⟩
theorem intR_of_owns {w : World} {base : Nat} {v : Value} {l : List Int} (h : w.ownsRow base 3 1 v l.length (l.map (Value.int .i64))) : IntR w base v l :=
  ⟨fun _ _ => trivial, _, h, by simp [Kd.int, Kd.scalar], fun j p hp => by
    obtain ⟨hj, rfl⟩ := List.getElem?_eq_some_iff.1 hp
    show List.take 1 (List.drop (j * 1) (l.map (Value.int .i64))) = [.int .i64 l[j]]
    rw [Nat.mul_one, List.drop_eq_getElem_cons (by simpa using hj)]
    simp⟩
theorem IntR.owns {w : World} {base : Nat} {v : Value} {l : List Int} (h : IntR w base v l) : w.ownsRow base 3 1 v l.length (l.map (Value.int .i64)) := by
  obtain ⟨_, inner, hown, hl, hr⟩ := h
  have e : inner = l.map (Value.int .i64) := by
    have hl' : inner.length = l.length := by simpa [Kd.int, Kd.scalar] using hl
    apply List.ext_getElem?
    intro j
    by_cases hj : j < l.length
    · have h1 : List.take 1 (List.drop (j * 1) inner) = [.int .i64 l[j]] := hr j l[j] (by simp [hj])
      have h2 := congrArg (fun l => l[0]?) h1
      simp only [Nat.mul_one, List.getElem?_take, List.getElem?_drop] at h2
      simp [hj] at h2 ⊢
      exact h2
    · simp [hj, hl']
  rw [← e]
  exact hown
theorem IntR.reads {w : World} {base : Nat} {v : Value} {l : List Int} (h : IntR w base v l) : ∃ A c, v = .slice A l.length c ∧ l.length ≤ c ∧ IntC w A l := Kd.R_reads h

theorem clone_ok (w : World) (A : Option Addr) (c : Nat) (l : List Int) (h : IntC w A l) (h0 : l ≠ []) (hl : l.length ≤ 100) : Calls Try.prog 41 #[.slice A l.length c] w (Gives w l) := by
  obtain ⟨i0, hi, hz0, hz1, hz2⟩ := info_parts infoI
  obtain ⟨ad, rfl, hlt, _⟩ := h.lt h0
  obtain ⟨ad', e, hc⟩ := (IntC_iff.1 h).2 (List.length_pos_iff.2 h0)
  cases e
  have q := fun (w : World) (a : Option Addr) (n c n' c' : Nat) => Lib.run_eql_slice_nil (P := Try.prog) w _ _ a n c n' c' Try.underlying22
  have hown : (w.alloc (.cells #[] 3)).ownsRow w.heap.size 3 1 (.slice (some ⟨w.heap.size, 0, none⟩) 0 0) 0 [] := World.ownsRow_made w #[] 0 (Nat.le_refl _) (by unfold maxLen; omega) rfl
  have hcells : ∀ j u, (l.map (Value.int .i64))[j]? = some u → (w.alloc (.cells #[] 3)).cell? (ad.add j) = some u := by
    intro j u hu
    obtain ⟨hj, rfl⟩ := vals_get l j u hu
    rw [← hc j hj]
    exact World.cell?_alloc_lt _ _ _ (by have : (ad.add j).block = ad.block := by unfold Addr.add; split <;> rfl
                                         rw [this]; exact hlt)
  clear hc h
  go_enter Try.func41, Try.ntmps41
  go_wp2_with (at_builtin; refine wpList_append_own _ rfl _ _ 22 rfl w.heap.size 3 i0 (.int .i64 0) 1 8 Try.underlying22 hi hz0 hz1 hz2 rfl (by decide) _ _ _ rfl hown ad l.length c (l.map (Value.int .i64)) rfl (by simp) hcells (ints_oneCell .i64 l) (by unfold maxLen; omega) (by omega) (by simp) ?_)
  intro v' w' hown' hgrow _
  have hb : Below w.heap.size w w' := ((Below.refl _ _).alloc (Nat.le_refl _) _).grown hgrow (by simp) (by intro k e; cases e; exact Nat.le_refl _)
  clear hown hgrow hcells
  go_wp2
  go_ret
  exact ⟨_, rfl, intR_of_owns (by simpa using hown'), hb⟩
end Go.Proofs.Ytibdjmmhdggpfaa
