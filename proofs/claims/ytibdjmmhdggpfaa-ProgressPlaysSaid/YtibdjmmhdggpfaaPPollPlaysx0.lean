-- PRINTED BY print.sh 35421559b90ae4d0a3588c463048766b98c2df88dd9212a6774a882060cdf62d: not written by this session
import Derived.Test.YtibdjmmhdggpfaaProg
import Derived.Below
import Derived.Deep.Draws
import Derived.Deep.AppendLies
import Derived.Maps.AppendAt
import Derived.OwnWalk
import Derived.Laws.BytesArg
import Derived.Laws.MakeOwn
import Derived.Laws.OwnMore
import Derived.Deep.OwnRows
import Derived.Tactics
import Derived.Lib.ConvBytes
import Derived.Laws.Slices
import Derived.WalkKit
import Derived.KernelRfl
import Derived.RowKit3
import Derived.Deep.LoopGhost
import Derived.Deep.QuietTactic
import Derived.BigQuiet
import Derived.WideLaws
import Derived.Deep.DeepCutAuto
import Derived.Deep.CutBlock
import Derived.Deep.RegionHeld3
import Derived.Laws.Rows
import Derived.Lib.AppendStr
import Derived.ArgAppend
import Derived.Laws.IdiomCopy
import Derived.OrdersHeld
import Derived.Laws.BitsLemmas
import Derived.RowKit
import Derived.Test.YtibdjmmhdggpfaaWWords
import Derived.Test.YtibdjmmhdggpfaaWLast
import Derived.Test.YtibdjmmhdggpfaaWTab
import Derived.Test.YtibdjmmhdggpfaaWFour
import Derived.Test.YtibdjmmhdggpfaaWQPut
import Derived.Test.YtibdjmmhdggpfaaWApart
import Derived.Test.YtibdjmmhdggpfaaWArr
import Derived.Test.YtibdjmmhdggpfaaWZeros
import Derived.Test.YtibdjmmhdggpfaaWFoot
import Derived.Test.YtibdjmmhdggpfaaWKept
import Derived.Test.YtibdjmmhdggpfaaWShare
import Derived.Test.YtibdjmmhdggpfaaWN
import Derived.Test.YtibdjmmhdggpfaaWFootNe
import Derived.Test.YtibdjmmhdggpfaaWAt
import Derived.Test.YtibdjmmhdggpfaaWEqStruct
import Derived.Test.YtibdjmmhdggpfaaWRepsOne
import Derived.Test.YtibdjmmhdggpfaaWInv
import Derived.Test.YtibdjmmhdggpfaaWInvWords
import Derived.Test.YtibdjmmhdggpfaaWGuard
import Derived.Test.YtibdjmmhdggpfaaWNEv
import Derived.Test.YtibdjmmhdggpfaaWMore
namespace Go.Proofs.Ytibdjmmhdggpfaa.PPollPlays
open Go.RowKit Go.Proofs.YtibdjmmhdggpfaaW.PrintWords Go.Proofs.YtibdjmmhdggpfaaW.PrintLast Go.Proofs.YtibdjmmhdggpfaaW.PrintMore
attribute [local go_sem] max2_int min2_int max_two min_two max_three min_three max_four min_four   -- for this text's walks alone
set_option linter.unusedVariables false
set_option linter.unusedSimpArgs false



def errW : Option Int → Value
  | none => .nilIface
  | some c => .iface 0 (.int .i64 c)
theorem errW_none : errW none = .nilIface := rfl
theorem errW_some (c : Int) : errW (some c) = .iface 0 (.int .i64 c) := rfl

theorem info3 : (Try.prog.info? 3).map (fun i => (i.zero, i.size, i.bytes)) = some (some (.int .i64 0), 1, 8) := by kernel_rfl
-- the values' own types

end Go.Proofs.Ytibdjmmhdggpfaa.PPollPlays
