-- PRINTED BY print.sh 35421559b90ae4d0a3588c463048766b98c2df88dd9212a6774a882060cdf62d: not written by this session
import Derived.Test.YtbdegifmcppciaaProg
import Derived.Below
import Derived.Deep.Draws
import Derived.Deep.AppendLies
import Derived.Maps.AppendAt
import Derived.OwnWalk
import Derived.Laws.BytesArg
import Derived.Laws.MakeOwn
import Derived.Laws.OwnMore
import Derived.Deep.OwnRows
import Derived.Tactics
import Derived.Lib.ConvBytes
import Derived.Laws.Slices
import Derived.WalkKit
import Derived.KernelRfl
import Derived.RowKit3
import Derived.Deep.LoopGhost
import Derived.Deep.QuietTactic
import Derived.BigQuiet
import Derived.WideLaws
import Derived.Deep.DeepCutAuto
import Derived.Deep.CutBlock
import Derived.Deep.RegionHeld3
import Derived.Laws.Rows
import Derived.Lib.AppendStr
import Derived.ArgAppend
import Derived.Laws.IdiomCopy
import Derived.OrdersHeld
import Derived.Laws.BitsLemmas
import Derived.RowKit
import Derived.Test.YtbdegifmcppciaaWWords
import Derived.Test.YtbdegifmcppciaaWLast
import Derived.Test.YtbdegifmcppciaaWTab
import Derived.Test.YtbdegifmcppciaaWFour
import Derived.Test.YtbdegifmcppciaaWQPut
import Derived.Test.YtbdegifmcppciaaWApart
import Derived.Test.YtbdegifmcppciaaWArr
import Derived.Test.YtbdegifmcppciaaWZeros
import Derived.Test.YtbdegifmcppciaaWFoot
import Derived.Test.YtbdegifmcppciaaWKept
import Derived.Test.YtbdegifmcppciaaWShare
import Derived.Test.YtbdegifmcppciaaWN
import Derived.Test.YtbdegifmcppciaaWFootNe
import Derived.Test.YtbdegifmcppciaaWAt
import Derived.Test.YtbdegifmcppciaaWEqStruct
import Derived.Test.YtbdegifmcppciaaWRepsOne
import Derived.Test.YtbdegifmcppciaaWInv
import Derived.Test.YtbdegifmcppciaaWInvWords
import Derived.Test.YtbdegifmcppciaaWGuard
import Derived.Test.YtbdegifmcppciaaWNEv
import Derived.Test.YtbdegifmcppciaaWMore
namespace Go.Proofs.Ytbdegifmcppciaa.PFnExactConstants
open Go.RowKit Go.Proofs.YtbdegifmcppciaaW.PrintWords Go.Proofs.YtbdegifmcppciaaW.PrintLast Go.Proofs.YtbdegifmcppciaaW.PrintMore
attribute [local go_sem] max2_int min2_int max_two min_two max_three min_three max_four min_four   -- for this text's walks alone
set_option linter.unusedVariables false
set_option linter.unusedSimpArgs false



def errW : Option Int → Value
  | none => .nilIface
  | some c => .iface 0 (.int .i64 c)
theorem errW_none : errW none = .nilIface := rfl
theorem errW_some (c : Int) : errW (some c) = .iface 0 (.int .i64 c) := rfl

-- the values' own types

end Go.Proofs.Ytbdegifmcppciaa.PFnExactConstants
