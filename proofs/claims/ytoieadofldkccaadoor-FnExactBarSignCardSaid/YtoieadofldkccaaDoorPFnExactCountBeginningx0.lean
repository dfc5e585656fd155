-- PRINTED BY print.sh 35421559b90ae4d0a3588c463048766b98c2df88dd9212a6774a882060cdf62d: not written by this session
import Derived.Test.YtoieadofldkccaaDoorProg
import Derived.Below
import Derived.Deep.Draws
import Derived.Deep.AppendLies
import Derived.Maps.AppendAt
import Derived.OwnWalk
import Derived.Laws.BytesArg
import Derived.Laws.MakeOwn
import Derived.Laws.OwnMore
import Derived.Deep.OwnRows
import Derived.Tactics
import Derived.Lib.ConvBytes
import Derived.Laws.Slices
import Derived.WalkKit
import Derived.KernelRfl
import Derived.RowKit3
import Derived.Deep.LoopGhost
import Derived.Deep.QuietTactic
import Derived.BigQuiet
import Derived.WideLaws
import Derived.Deep.DeepCutAuto
import Derived.Deep.CutBlock
import Derived.Deep.RegionHeld3
import Derived.Laws.Rows
import Derived.Lib.AppendStr
import Derived.ArgAppend
import Derived.Laws.IdiomCopy
import Derived.OrdersHeld
import Derived.Laws.BitsLemmas
import Derived.RowKit
import Derived.Test.YtoieadofldkccaaDoorWWords
import Derived.Test.YtoieadofldkccaaDoorWLast
import Derived.Test.YtoieadofldkccaaDoorWTab
import Derived.Test.YtoieadofldkccaaDoorWFour
import Derived.Test.YtoieadofldkccaaDoorWQPut
import Derived.Test.YtoieadofldkccaaDoorWApart
import Derived.Test.YtoieadofldkccaaDoorWArr
import Derived.Test.YtoieadofldkccaaDoorWZeros
import Derived.Test.YtoieadofldkccaaDoorWFoot
import Derived.Test.YtoieadofldkccaaDoorWKept
import Derived.Test.YtoieadofldkccaaDoorWShare
import Derived.Test.YtoieadofldkccaaDoorWN
import Derived.Test.YtoieadofldkccaaDoorWFootNe
import Derived.Test.YtoieadofldkccaaDoorWAt
import Derived.Test.YtoieadofldkccaaDoorWEqStruct
import Derived.Test.YtoieadofldkccaaDoorWRepsOne
import Derived.Test.YtoieadofldkccaaDoorWInv
import Derived.Test.YtoieadofldkccaaDoorWInvWords
import Derived.Test.YtoieadofldkccaaDoorWGuard
import Derived.Test.YtoieadofldkccaaDoorWNEv
import Derived.Test.YtoieadofldkccaaDoorWMore
namespace Go.Proofs.YtoieadofldkccaaDoor.PFnExactCountBeginning
open Go.RowKit Go.Proofs.YtoieadofldkccaaDoorW.PrintWords Go.Proofs.YtoieadofldkccaaDoorW.PrintLast Go.Proofs.YtoieadofldkccaaDoorW.PrintMore
attribute [local go_sem] max2_int min2_int max_two min_two max_three min_three max_four min_four   -- for this text's walks alone
set_option linter.unusedVariables false
set_option linter.unusedSimpArgs false



def errW : Option Int → Value
  | none => .nilIface
  | some c => .iface 0 (.int .i64 c)
theorem errW_none : errW none = .nilIface := rfl
theorem errW_some (c : Int) : errW (some c) = .iface 0 (.int .i64 c) := rfl

theorem info9 : (Tryd.prog.info? 9).map (fun i => (i.zero, i.size, i.bytes)) = some (some (.string ⟨#[]⟩), 1, 16) := by kernel_rfl
-- the values' own types

end Go.Proofs.YtoieadofldkccaaDoor.PFnExactCountBeginning
