/-
  No cell of these rows narrows 'for every input' (looked for: loops, veiled, ifaces, maps, wideKeys, modest, calm, conditions, laid).
  DERIVED. THE GIVEN ROWS OF THIS SEAT. 8 by the template 'for every input the law returns true; each argument reads behind the call as it read before'; 0 by the template 'total and deterministic' (their statements: YtibdjmmhdggpfaaTotals.lean).
  GIVEN WITH THE SEED: the statements are not yours to turn. If you find one false, say at which input.
  Laid BY PROGRAM, IN A SANDBOX (cutbox-rows.mjs): the forced cells as the released guide's own fill.sh prints them over the translation 41192c7ec7dd1c4c… (all of the seat's roots in one cut). By AI agents, Wed Nov 11 2026. No macro, syntax, notation, axiom, sorry.
-/
import Derived.Test.YtibdjmmhdggpfaaChecked
import GoSem.Claim
import GoSem.ClaimJoined
import GoSem.ClaimMapViews
import Derived.JoinedTies
import Derived.KernelRfl
namespace Go.Proofs.Ytibdjmmhdggpfaa
/- THE CELL 'sum', in the pinned program and in every row, IS THE sha256 OF THE DUMP (.gsa) THAT YtibdjmmhdggpfaaProg.lean LOADS. Nothing in Lean hashes anything: it is a label: what it is worth is what the hold of that sum in a sandbox is worth. -/
noncomputable def Try.pinned : Pinned := { name := "ytibdjmmhdggpfaa", sum := "41192c7ec7dd1c4cc01514e8ecf1466fc4bb981faf8038d72e73a9d95e7c4853", checked := Try.checked }
namespace Rows
def none {H : Type} : Left H := { results := [], args := [] }

/-- 'curfewlaw32.PollPlays': WHATEVER THE INPUT: true; the input reads as it did. -/
def pollPlaysSpec : ChangeSpec := { name := "pollPlays", fn := fun _ => fun
  | [d1, d2] => { results := [.lit (.bool true)], args := [d1, d2] }
  | _ => none }
def pollPlaysRow : OpenClaim := { program := "ytibdjmmhdggpfaa", sum := "41192c7ec7dd1c4cc01514e8ecf1466fc4bb981faf8038d72e73a9d95e7c4853", func := "curfew/curfewlaw32.PollPlays", spec := "pollPlays", recurses := true, apart := false }
def PollPlaysSaid : Prop := pollPlaysRow.holds Try.pinned (OpenSpec.ofChange pollPlaysSpec)

/-- ITS FALSE NEIGHBOUR: 'it returns false'. Refute it at one input. -/
def pollPlaysWrong : ChangeSpec := { name := "pollPlays", fn := fun _ => fun
  | [d1, d2] => { results := [.lit (.bool false)], args := [d1, d2] }
  | _ => none }
def PollPlaysWrongFalsely : Prop := pollPlaysRow.holds Try.pinned (OpenSpec.ofChange pollPlaysWrong)

/-- 'curfewlaw32.PollStays': WHATEVER THE INPUT: true; the input reads as it did. -/
def pollStaysSpec : ChangeSpec := { name := "pollStays", fn := fun _ => fun
  | [d1, d2, d3] => { results := [.lit (.bool true)], args := [d1, d2, d3] }
  | _ => none }
def pollStaysRow : OpenClaim := { program := "ytibdjmmhdggpfaa", sum := "41192c7ec7dd1c4cc01514e8ecf1466fc4bb981faf8038d72e73a9d95e7c4853", func := "curfew/curfewlaw32.PollStays", spec := "pollStays", recurses := true, apart := false }
def PollStaysSaid : Prop := pollStaysRow.holds Try.pinned (OpenSpec.ofChange pollStaysSpec)

/-- ITS FALSE NEIGHBOUR: 'it returns false'. Refute it at one input. -/
def pollStaysWrong : ChangeSpec := { name := "pollStays", fn := fun _ => fun
  | [d1, d2, d3] => { results := [.lit (.bool false)], args := [d1, d2, d3] }
  | _ => none }
def PollStaysWrongFalsely : Prop := pollStaysRow.holds Try.pinned (OpenSpec.ofChange pollStaysWrong)

/-- 'curfewlaw32.PollOne': WHATEVER THE INPUT: true; the input reads as it did. -/
def pollOneSpec : ChangeSpec := { name := "pollOne", fn := fun _ => fun
  | [d1, d2, d3, d4] => { results := [.lit (.bool true)], args := [d1, d2, d3, d4] }
  | _ => none }
def pollOneRow : OpenClaim := { program := "ytibdjmmhdggpfaa", sum := "41192c7ec7dd1c4cc01514e8ecf1466fc4bb981faf8038d72e73a9d95e7c4853", func := "curfew/curfewlaw32.PollOne", spec := "pollOne", recurses := true, apart := false }
def PollOneSaid : Prop := pollOneRow.holds Try.pinned (OpenSpec.ofChange pollOneSpec)

/-- ITS FALSE NEIGHBOUR: 'it returns false'. Refute it at one input. -/
def pollOneWrong : ChangeSpec := { name := "pollOne", fn := fun _ => fun
  | [d1, d2, d3, d4] => { results := [.lit (.bool false)], args := [d1, d2, d3, d4] }
  | _ => none }
def PollOneWrongFalsely : Prop := pollOneRow.holds Try.pinned (OpenSpec.ofChange pollOneWrong)

/-- 'curfewlaw32.PollNobody': WHATEVER THE INPUT: true; the input reads as it did. -/
def pollNobodySpec : ChangeSpec := { name := "pollNobody", fn := fun _ => fun
  | [d] => { results := [.lit (.bool true)], args := [d] }
  | _ => none }
def pollNobodyRow : OpenClaim := { program := "ytibdjmmhdggpfaa", sum := "41192c7ec7dd1c4cc01514e8ecf1466fc4bb981faf8038d72e73a9d95e7c4853", func := "curfew/curfewlaw32.PollNobody", spec := "pollNobody", recurses := true, apart := false }
def PollNobodySaid : Prop := pollNobodyRow.holds Try.pinned (OpenSpec.ofChange pollNobodySpec)

/-- ITS FALSE NEIGHBOUR: 'it returns false'. Refute it at one input. -/
def pollNobodyWrong : ChangeSpec := { name := "pollNobody", fn := fun _ => fun
  | [d] => { results := [.lit (.bool false)], args := [d] }
  | _ => none }
def PollNobodyWrongFalsely : Prop := pollNobodyRow.holds Try.pinned (OpenSpec.ofChange pollNobodyWrong)

/-- 'curfewlaw31.ProgressAgreed': WHATEVER THE INPUT: true; the input reads as it did. -/
def progressAgreedSpec : ChangeSpec := { name := "progressAgreed", fn := fun _ => fun
  | [d1, d2, d3, d4] => { results := [.lit (.bool true)], args := [d1, d2, d3, d4] }
  | _ => none }
def progressAgreedRow : OpenClaim := { program := "ytibdjmmhdggpfaa", sum := "41192c7ec7dd1c4cc01514e8ecf1466fc4bb981faf8038d72e73a9d95e7c4853", func := "curfew/curfewlaw31.ProgressAgreed", spec := "progressAgreed", unfollowed := true, recurses := true, apart := false }
def ProgressAgreedSaid : Prop := progressAgreedRow.holds Try.pinned (OpenSpec.ofChange progressAgreedSpec)

/-- ITS FALSE NEIGHBOUR: 'it returns false'. Refute it at one input. -/
def progressAgreedWrong : ChangeSpec := { name := "progressAgreed", fn := fun _ => fun
  | [d1, d2, d3, d4] => { results := [.lit (.bool false)], args := [d1, d2, d3, d4] }
  | _ => none }
def ProgressAgreedWrongFalsely : Prop := progressAgreedRow.holds Try.pinned (OpenSpec.ofChange progressAgreedWrong)

/-- 'curfewlaw31.ProgressRises': WHATEVER THE INPUT: true; the input reads as it did. -/
def progressRisesSpec : ChangeSpec := { name := "progressRises", fn := fun _ => fun
  | [d1, d2, d3] => { results := [.lit (.bool true)], args := [d1, d2, d3] }
  | _ => none }
def progressRisesRow : OpenClaim := { program := "ytibdjmmhdggpfaa", sum := "41192c7ec7dd1c4cc01514e8ecf1466fc4bb981faf8038d72e73a9d95e7c4853", func := "curfew/curfewlaw31.ProgressRises", spec := "progressRises", unfollowed := true, recurses := true, apart := false }
def ProgressRisesSaid : Prop := progressRisesRow.holds Try.pinned (OpenSpec.ofChange progressRisesSpec)

/-- ITS FALSE NEIGHBOUR: 'it returns false'. Refute it at one input. -/
def progressRisesWrong : ChangeSpec := { name := "progressRises", fn := fun _ => fun
  | [d1, d2, d3] => { results := [.lit (.bool false)], args := [d1, d2, d3] }
  | _ => none }
def ProgressRisesWrongFalsely : Prop := progressRisesRow.holds Try.pinned (OpenSpec.ofChange progressRisesWrong)

/-- 'curfewlaw31.ProgressPlays': WHATEVER THE INPUT: true; the input reads as it did. -/
def progressPlaysSpec : ChangeSpec := { name := "progressPlays", fn := fun _ => fun
  | [d1, d2, d3, d4, d5, d6] => { results := [.lit (.bool true)], args := [d1, d2, d3, d4, d5, d6] }
  | _ => none }
def progressPlaysRow : OpenClaim := { program := "ytibdjmmhdggpfaa", sum := "41192c7ec7dd1c4cc01514e8ecf1466fc4bb981faf8038d72e73a9d95e7c4853", func := "curfew/curfewlaw31.ProgressPlays", spec := "progressPlays", unfollowed := true, recurses := true, apart := false }
def ProgressPlaysSaid : Prop := progressPlaysRow.holds Try.pinned (OpenSpec.ofChange progressPlaysSpec)

/-- ITS FALSE NEIGHBOUR: 'it returns false'. Refute it at one input. -/
def progressPlaysWrong : ChangeSpec := { name := "progressPlays", fn := fun _ => fun
  | [d1, d2, d3, d4, d5, d6] => { results := [.lit (.bool false)], args := [d1, d2, d3, d4, d5, d6] }
  | _ => none }
def ProgressPlaysWrongFalsely : Prop := progressPlaysRow.holds Try.pinned (OpenSpec.ofChange progressPlaysWrong)

/-- 'curfewlaw31.ProgressNobody': WHATEVER THE INPUT: true; the input reads as it did. -/
def progressNobodySpec : ChangeSpec := { name := "progressNobody", fn := fun _ => fun
  | [d1, d2, d3] => { results := [.lit (.bool true)], args := [d1, d2, d3] }
  | _ => none }
def progressNobodyRow : OpenClaim := { program := "ytibdjmmhdggpfaa", sum := "41192c7ec7dd1c4cc01514e8ecf1466fc4bb981faf8038d72e73a9d95e7c4853", func := "curfew/curfewlaw31.ProgressNobody", spec := "progressNobody", unfollowed := true, recurses := true, apart := false }
def ProgressNobodySaid : Prop := progressNobodyRow.holds Try.pinned (OpenSpec.ofChange progressNobodySpec)

/-- ITS FALSE NEIGHBOUR: 'it returns false'. Refute it at one input. -/
def progressNobodyWrong : ChangeSpec := { name := "progressNobody", fn := fun _ => fun
  | [d1, d2, d3] => { results := [.lit (.bool false)], args := [d1, d2, d3] }
  | _ => none }
def ProgressNobodyWrongFalsely : Prop := progressNobodyRow.holds Try.pinned (OpenSpec.ofChange progressNobodyWrong)

/- THE SECOND FORM. 'bulk': how many values and letters a reading holds, each counted each time it is reached (what is shared counts as often as it is met; a slice's spare places count too). A statement '..UptoSaid' is the law's where the arguments, and the package variables that the reading takes, are together of bulk at most 1048576: NARROWER than '..Said'. Prove '..Said' where nothing that the law and all that it calls make is longer than what came in: it says more and counts as full. Else prove '..UptoSaid'. A law counts once. -/
mutual
def uptoBulk {H : Type} : DataW H → Nat
  | .lit (.string bytes) => bytes.length + 1
  | .lit _ => 1
  | .nil => 1
  | .ptr d => uptoBulk d + 1
  | .slice elems spare => uptoBulkAll elems + uptoBulkAll spare + 1
  | .agg parts => uptoBulkAll parts + 1
  | .iface _ d => uptoBulk d + 1
  | .map entries => uptoBulkEntries entries + 1
  | .held _ => 1
def uptoBulkAll {H : Type} : List (DataW H) → Nat
  | [] => 0
  | d :: r => uptoBulk d + uptoBulkAll r
def uptoBulkEntries {H : Type} : List (Lit × DataW H) → Nat
  | [] => 0
  | x :: r => uptoBulkEntry x + uptoBulkEntries r
def uptoBulkEntry {H : Type} : Lit × DataW H → Nat
  | (.string bytes, d) => bytes.length + uptoBulk d + 1
  | (_, d) => uptoBulk d + 1
 end
def uptoSmall : (H : Type) → List (DataW H) → Bool := fun _ ds => decide (uptoBulkAll ds ≤ 1048576)
def OpenSpec.upto (s : _root_.Go.ChangeSpec) : _root_.Go.OpenSpec := { _root_.Go.OpenSpec.ofChange s with cond := some uptoSmall }

/-- 'curfewlaw32.PollPlays', WHERE WHAT IT READS IS OF BULK AT MOST 1048576: true; the input reads as it did. -/
def pollPlaysUptoRow : OpenClaim := { program := "ytibdjmmhdggpfaa", sum := "41192c7ec7dd1c4cc01514e8ecf1466fc4bb981faf8038d72e73a9d95e7c4853", func := "curfew/curfewlaw32.PollPlays", spec := "pollPlays", recurses := true, apart := false, narrowed := true }
def PollPlaysUptoSaid : Prop := pollPlaysUptoRow.holds Try.pinned (OpenSpec.upto pollPlaysSpec)

/-- 'curfewlaw32.PollStays', WHERE WHAT IT READS IS OF BULK AT MOST 1048576: true; the input reads as it did. -/
def pollStaysUptoRow : OpenClaim := { program := "ytibdjmmhdggpfaa", sum := "41192c7ec7dd1c4cc01514e8ecf1466fc4bb981faf8038d72e73a9d95e7c4853", func := "curfew/curfewlaw32.PollStays", spec := "pollStays", recurses := true, apart := false, narrowed := true }
def PollStaysUptoSaid : Prop := pollStaysUptoRow.holds Try.pinned (OpenSpec.upto pollStaysSpec)

/-- 'curfewlaw32.PollOne', WHERE WHAT IT READS IS OF BULK AT MOST 1048576: true; the input reads as it did. -/
def pollOneUptoRow : OpenClaim := { program := "ytibdjmmhdggpfaa", sum := "41192c7ec7dd1c4cc01514e8ecf1466fc4bb981faf8038d72e73a9d95e7c4853", func := "curfew/curfewlaw32.PollOne", spec := "pollOne", recurses := true, apart := false, narrowed := true }
def PollOneUptoSaid : Prop := pollOneUptoRow.holds Try.pinned (OpenSpec.upto pollOneSpec)

/-- 'curfewlaw32.PollNobody', WHERE WHAT IT READS IS OF BULK AT MOST 1048576: true; the input reads as it did. -/
def pollNobodyUptoRow : OpenClaim := { program := "ytibdjmmhdggpfaa", sum := "41192c7ec7dd1c4cc01514e8ecf1466fc4bb981faf8038d72e73a9d95e7c4853", func := "curfew/curfewlaw32.PollNobody", spec := "pollNobody", recurses := true, apart := false, narrowed := true }
def PollNobodyUptoSaid : Prop := pollNobodyUptoRow.holds Try.pinned (OpenSpec.upto pollNobodySpec)

/-- 'curfewlaw31.ProgressAgreed', WHERE WHAT IT READS IS OF BULK AT MOST 1048576: true; the input reads as it did. -/
def progressAgreedUptoRow : OpenClaim := { program := "ytibdjmmhdggpfaa", sum := "41192c7ec7dd1c4cc01514e8ecf1466fc4bb981faf8038d72e73a9d95e7c4853", func := "curfew/curfewlaw31.ProgressAgreed", spec := "progressAgreed", unfollowed := true, recurses := true, apart := false, narrowed := true }
def ProgressAgreedUptoSaid : Prop := progressAgreedUptoRow.holds Try.pinned (OpenSpec.upto progressAgreedSpec)

/-- 'curfewlaw31.ProgressRises', WHERE WHAT IT READS IS OF BULK AT MOST 1048576: true; the input reads as it did. -/
def progressRisesUptoRow : OpenClaim := { program := "ytibdjmmhdggpfaa", sum := "41192c7ec7dd1c4cc01514e8ecf1466fc4bb981faf8038d72e73a9d95e7c4853", func := "curfew/curfewlaw31.ProgressRises", spec := "progressRises", unfollowed := true, recurses := true, apart := false, narrowed := true }
def ProgressRisesUptoSaid : Prop := progressRisesUptoRow.holds Try.pinned (OpenSpec.upto progressRisesSpec)

/-- 'curfewlaw31.ProgressPlays', WHERE WHAT IT READS IS OF BULK AT MOST 1048576: true; the input reads as it did. -/
def progressPlaysUptoRow : OpenClaim := { program := "ytibdjmmhdggpfaa", sum := "41192c7ec7dd1c4cc01514e8ecf1466fc4bb981faf8038d72e73a9d95e7c4853", func := "curfew/curfewlaw31.ProgressPlays", spec := "progressPlays", unfollowed := true, recurses := true, apart := false, narrowed := true }
def ProgressPlaysUptoSaid : Prop := progressPlaysUptoRow.holds Try.pinned (OpenSpec.upto progressPlaysSpec)

/-- 'curfewlaw31.ProgressNobody', WHERE WHAT IT READS IS OF BULK AT MOST 1048576: true; the input reads as it did. -/
def progressNobodyUptoRow : OpenClaim := { program := "ytibdjmmhdggpfaa", sum := "41192c7ec7dd1c4cc01514e8ecf1466fc4bb981faf8038d72e73a9d95e7c4853", func := "curfew/curfewlaw31.ProgressNobody", spec := "progressNobody", unfollowed := true, recurses := true, apart := false, narrowed := true }
def ProgressNobodyUptoSaid : Prop := progressNobodyUptoRow.holds Try.pinned (OpenSpec.upto progressNobodySpec)

end Rows
end Go.Proofs.Ytibdjmmhdggpfaa
