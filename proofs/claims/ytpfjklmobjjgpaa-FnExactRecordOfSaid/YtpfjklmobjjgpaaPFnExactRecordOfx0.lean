-- PRINTED BY print.sh 35421559b90ae4d0a3588c463048766b98c2df88dd9212a6774a882060cdf62d: not written by this session
import Derived.Test.YtpfjklmobjjgpaaProg
import Derived.Below
import Derived.Deep.Draws
import Derived.Deep.AppendLies
import Derived.Maps.AppendAt
import Derived.OwnWalk
import Derived.Laws.BytesArg
import Derived.Laws.MakeOwn
import Derived.Laws.OwnMore
import Derived.Deep.OwnRows
import Derived.Tactics
import Derived.Lib.ConvBytes
import Derived.Laws.Slices
import Derived.WalkKit
import Derived.KernelRfl
import Derived.RowKit3
import Derived.Deep.LoopGhost
import Derived.Deep.QuietTactic
import Derived.BigQuiet
import Derived.WideLaws
import Derived.Deep.DeepCutAuto
import Derived.Deep.CutBlock
import Derived.Deep.RegionHeld3
import Derived.Laws.Rows
import Derived.Lib.AppendStr
import Derived.ArgAppend
import Derived.Laws.IdiomCopy
import Derived.OrdersHeld
import Derived.Laws.BitsLemmas
import Derived.RowKit
import Derived.Test.YtpfjklmobjjgpaaWWords
import Derived.Test.YtpfjklmobjjgpaaWLast
import Derived.Test.YtpfjklmobjjgpaaWTab
import Derived.Test.YtpfjklmobjjgpaaWFour
import Derived.Test.YtpfjklmobjjgpaaWQPut
import Derived.Test.YtpfjklmobjjgpaaWApart
import Derived.Test.YtpfjklmobjjgpaaWArr
import Derived.Test.YtpfjklmobjjgpaaWZeros
import Derived.Test.YtpfjklmobjjgpaaWFoot
import Derived.Test.YtpfjklmobjjgpaaWKept
import Derived.Test.YtpfjklmobjjgpaaWShare
import Derived.Test.YtpfjklmobjjgpaaWN
import Derived.Test.YtpfjklmobjjgpaaWFootNe
import Derived.Test.YtpfjklmobjjgpaaWAt
import Derived.Test.YtpfjklmobjjgpaaWEqStruct
import Derived.Test.YtpfjklmobjjgpaaWRepsOne
import Derived.Test.YtpfjklmobjjgpaaWInv
import Derived.Test.YtpfjklmobjjgpaaWInvWords
import Derived.Test.YtpfjklmobjjgpaaWGuard
import Derived.Test.YtpfjklmobjjgpaaWNEv
import Derived.Test.YtpfjklmobjjgpaaWMore
namespace Go.Proofs.Ytpfjklmobjjgpaa.PFnExactRecordOf
open Go.RowKit Go.Proofs.YtpfjklmobjjgpaaW.PrintWords Go.Proofs.YtpfjklmobjjgpaaW.PrintLast Go.Proofs.YtpfjklmobjjgpaaW.PrintMore
attribute [local go_sem] max2_int min2_int max_two min_two max_three min_three max_four min_four   -- for this text's walks alone
set_option linter.unusedVariables false
set_option linter.unusedSimpArgs false



def errW : Option Int → Value
  | none => .nilIface
  | some c => .iface 0 (.int .i64 c)
theorem errW_none : errW none = .nilIface := rfl
theorem errW_some (c : Int) : errW (some c) = .iface 0 (.int .i64 c) := rfl

theorem info5 : (Try.prog.info? 5).map (fun i => (i.zero, i.size, i.bytes)) = some (some (.int .u8 0), 1, 1) := by kernel_rfl
-- the values' own types

end Go.Proofs.Ytpfjklmobjjgpaa.PFnExactRecordOf
