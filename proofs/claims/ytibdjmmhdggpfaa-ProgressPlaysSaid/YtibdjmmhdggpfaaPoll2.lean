/-
  Contracts of poll.New, Note, Yes, No and State.
-/
import Derived.Test.YtibdjmmhdggpfaaPoll
namespace Go.Proofs.Ytibdjmmhdggpfaa
set_option linter.unusedVariables false
set_option linter.unusedSimpArgs false
open Go.RowKit Go.Maps Go.Proofs.YtibdjmmhdggpfaaW.PrintWords Go.Proofs.YtibdjmmhdggpfaaW.PrintMore Go.Proofs.Ytibdjmmhdggpfaa.PPollPlays Go.Proofs.Ytibdjmmhdggpfaa.pure Go.Proofs.Ytibdjmmhdggpfaa.fmap

theorem msound (w : World) (A : Option Addr) (c : Nat) (l : List Int) (h : IntC w A l) (hc : l.length ≤ c) (hl : l.length ≤ 100) : Calls Try.prog 40 #[.slice A l.length c] w fun e w' => e = .returned (.bool (snd l)) ∧ Below w.heap.size w w' :=
  member_Sound.calls (l.length + 8) A c l (snd l) w h hc (sound_eq l (by omega) _ (by omega))
theorem mhas (w : World) (A : Option Addr) (c : Nat) (l : List Int) (h : IntC w A l) (hc : l.length ≤ c) (hl : l.length ≤ 100) (n : Int) : Calls Try.prog 46 #[.slice A l.length c, .int .i64 n] w fun e w' => e = .returned (.bool (decide (n ∈ l))) ∧ Below w.heap.size w w' :=
  (member_Has.calls (l.length + 8) A c l n _ w h hc (mhas_eq l n (by omega) _ (by omega))).mono fun e w' he => ⟨he.1, by
    obtain ⟨m, hm⟩ := he.2
    rw [hm]
    exact ⟨rfl, rfl, rfl, Nat.le_refl _, fun _ _ => rfl⟩⟩
theorem mquorum (w : World) (A : Option Addr) (c : Nat) (l : List Int) (h : IntC w A l) (hc : l.length ≤ c) (hl : l.length ≤ 100) : Calls Try.prog 47 #[.slice A l.length c] w fun e w' => e = .returned (.int .i64 (quo l)) ∧ Below w.heap.size w w' :=
  member_Quorum.calls (l.length + 8) A c l (quo l) w h hc (quorum_eq l (by omega) _ (by omega))

theorem new_no (w : World) (A : Option Addr) (c : Nat) (l : List Int) (h : IntC w A l) (hc : l.length ≤ c) (hl : l.length ≤ 100) (hs : snd l = false) :
    Calls Try.prog 12 #[.slice A l.length c] w fun e w' => e = .returned (.pointer none) ∧ Below w.heap.size w w' := by
  have HS := Lib.hid (msound w A c l h hc hl)
  rw [hs] at HS
  clear h hs
  go_enter Try.func12, Try.ntmps12
  go_wp2_with (go_at_call 40; refine HS.out.mono ?_; rintro e w1 ⟨rfl, hb⟩)
  go_ret
  exact ⟨rfl, hb⟩

/-- What New leaves. -/
def Makes (w : World) (l : List Int) (e : Ending) (w' : World) : Prop :=
  ∃ b bm A c, e = .returned (.pointer (some ⟨b, 0, none⟩)) ∧ PAt w' b bm A c l (fun _ => 0) 0 ∧ Below w.heap.size w w' ∧ w.heap.size ≤ b ∧ w.heap.size ≤ bm ∧ ∀ ad, A = some ad → w.heap.size ≤ ad.block

theorem tell_none : tell (fun _ => 0) = fun _ => none := by
  funext kl
  unfold tell
  split <;> simp

theorem made_at {w w1 w2 : World} {l : List Int} {A2 : Option Addr} {c2 : Nat} (hb : Below w.heap.size w w1) (hb2 : Below w1.heap.size w1 w2) (hv : IntR w2 w1.heap.size (.slice A2 l.length c2) l) (hC : IntC w2 A2 l) (hc : l.length ≤ c2) (hs : snd l = true) :
    PAt ((w2.alloc (.map #[] 0)).alloc (.cells #[.slice A2 l.length c2, .map (some w2.heap.size)] 46)) (w2.heap.size + 1) w2.heap.size A2 c2 l (fun _ => 0) 0 ∧
      Below w.heap.size w ((w2.alloc (.map #[] 0)).alloc (.cells #[.slice A2 l.length c2, .map (some w2.heap.size)] 46)) ∧ w.heap.size ≤ w2.heap.size + 1 ∧ w.heap.size ≤ w2.heap.size ∧ ∀ ad, A2 = some ad → w.heap.size ≤ ad.block := by
  have hs1 := hb.size
  have hs2 := hb2.size
  have hB : Below w.heap.size w w2 := hb.trans (hb2.mono hs1)
  refine ⟨⟨?_, ?_, hc, ?_, hs, Ok.start _⟩, (hB.alloc (by omega) _).alloc (by simp; omega) _, by omega, by omega, ?_⟩
  · have := heap_alloc_new (w2.alloc (.map #[] 0)) (.cells #[.slice A2 l.length c2, .map (some w2.heap.size)] 46)
    simpa using this
  · exact hC.kept (row := none) (((World.grownBy_alloc _ _ none)).andThen (World.grownBy_alloc _ _ none) (by simp)) (by simp)
  · rw [tell_none]
    exact (FM.made _ _ _).alloc _
  · intro ad e
    subst e
    have := hv.owns.lt ad.block rfl
    omega

theorem new_ok (w : World) (A : Option Addr) (c : Nat) (l : List Int) (h : IntC w A l) (hc : l.length ≤ c) (hl : l.length ≤ 100) (hs : snd l = true) :
    Calls Try.prog 12 #[.slice A l.length c] w (Makes w l) := by
  have HS := Lib.hid (msound w A c l h hc hl)
  rw [hs] at HS
  have HH := Lib.hid h
  have HT := Lib.hid hs
  have hmm := @run_makeMap Try.prog
  clear h hs
  go_enter Try.func12, Try.ntmps12
  go_wp2_with (first
    | (go_at_call 40; refine HS.out.mono ?_; rintro e w1 ⟨rfl, hb⟩)
    | (go_at_call 41; refine (clone_ok _ A c l (HH.out.below hb) (snd_ne HT.out) hl).mono ?_; rintro e w2 ⟨v, rfl, hv, hb2⟩; obtain ⟨A2, c2, hv2, hc2, hC2⟩ := hv.reads; subst hv2))
  go_ret
  exact ⟨_, _, _, _, rfl, made_at hb hb2 hv hC2 hc2 HT.out⟩

/-- What was said is asked. -/
theorem look3 {w : World} {bm n : Nat} {said : Int → Int} (h : FM w Try.prog 3 bm n (tell said)) (x : Int) (hx : (Lit.int .i64 x).wf = true) : (Instr.lookup 44 (.map (some bm)) (.int .i64 x) false).run Try.prog w = .ok (.int .i64 (said x)) w := by
  rw [h.look law3 Try.underlying44 (zero3 _) (keyOf_int_mk Try.underlying3 hx)]
  unfold tell
  by_cases e : said x = 0
  · simp [e]
  · simp [e]
theorem wf_node {l : List Int} (hs : snd l = true) {x : Int} (hx : x ∈ l) : (Lit.int .i64 x).wf = true := by
  have := ((snd_iff l).1 hs).2.2 x hx
  exact WalkArith.wf_i64 (by omega)

theorem pnote_no (w : World) (b bm : Nat) (A : Option Addr) (c : Nat) (mem : List Int) (said : Int → Int) (n : Nat) (h : PAt w b bm A c mem said n) (x : Int) (ok : Bool) (hx : counts mem said x = false) :
    Calls Try.prog 15 #[.pointer (some ⟨b, 0, none⟩), .int .i64 x, .bool ok] w fun e w' => e = .returned (.bool false) ∧ Below w.heap.size w w' := by
  have h0 := h.c0
  have h1 := h.c1
  have hsz := h.size
  have HH := Lib.hid h
  clear h
  by_cases e : x ∈ mem
  · have e1 : said x ≠ 0 := by
      intro h0
      unfold counts at hx
      simp [e, h0] at hx
    have hd : decide (x ∈ mem) = true := by simpa using e
    have HM := fun w1 hb => Lib.hid (mhas w1 A c mem ((HH.out).memC.below hb) (HH.out).cap (by omega) x)
    rw [hd] at HM
    clear hd hx
    have hne : ((said x) != 0) = true := by simpa using e1
    have HE := Lib.hid e
    clear e e1
    go_enter Try.func15, Try.ntmps15
    go_wp2_with (first
      | (go_at_call 45; refine (none_some _ _ _ h1).mono ?_; rintro e w1 ⟨rfl, rfl⟩)
      | (go_at_call 46; refine (HM _ (Below.refl _ _)).out.mono ?_; rintro e w1 ⟨rfl, hb⟩; have h2 := (hb.cell (p := ⟨b, 1, none⟩) HH.out.lt).trans h1; have hl := look3 (HH.out.below hb).map x (wf_node HH.out.sndT HE.out)))
    go_ret
    exact ⟨rfl, hb⟩
  · have hd : decide (x ∈ mem) = false := by simpa using e
    have HM := fun w1 hb => Lib.hid (mhas w1 A c mem ((HH.out).memC.below hb) (HH.out).cap (by omega) x)
    rw [hd] at HM
    clear hd hx
    have HE := Lib.hid e
    clear e
    go_enter Try.func15, Try.ntmps15
    go_wp2_with (first
      | (go_at_call 45; refine (none_some _ _ _ h1).mono ?_; rintro e w1 ⟨rfl, rfl⟩)
      | (go_at_call 46; refine (HM _ (Below.refl _ _)).out.mono ?_; rintro e w1 ⟨rfl, hb⟩))
    go_ret
    exact ⟨rfl, hb⟩
end Go.Proofs.Ytibdjmmhdggpfaa
