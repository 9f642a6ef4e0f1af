-- Written by a program of this session (wip/trim.py) out of the texts that the kit's print and wip/myprint.py write for this claim.
import Derived.Test.YtfddealjbpdehaaDoorProg
import Derived.Below
import Derived.Deep.Draws
import Derived.Deep.AppendLies
import Derived.Maps.AppendAt
import Derived.OwnWalk
import Derived.Laws.BytesArg
import Derived.Laws.MakeOwn
import Derived.Laws.OwnMore
import Derived.Deep.OwnRows
import Derived.Tactics
import Derived.Lib.ConvBytes
import Derived.Laws.Slices
import Derived.WalkKit
import Derived.KernelRfl
import Derived.RowKit3
import Derived.Deep.LoopGhost
import Derived.Deep.QuietTactic
import Derived.BigQuiet
import Derived.WideLaws
import Derived.Deep.DeepCutAuto
import Derived.Deep.CutBlock
import Derived.Deep.RegionHeld3
import Derived.Laws.Rows
import Derived.Lib.AppendStr
import Derived.ArgAppend
import Derived.Laws.IdiomCopy
import Derived.OrdersHeld
import Derived.Laws.BitsLemmas
import Derived.RowKit
import Derived.Test.YtfddealjbpdehaaDoorQ1WWords
import Derived.Test.YtfddealjbpdehaaDoorQ1WLast
import Derived.Test.YtfddealjbpdehaaDoorQ1WTab
import Derived.Test.YtfddealjbpdehaaDoorQ1WApart
import Derived.Test.YtfddealjbpdehaaDoorQ1WFoot
import Derived.Test.YtfddealjbpdehaaDoorQ1WKept
import Derived.Test.YtfddealjbpdehaaDoorQ1WShare
import Derived.Test.YtfddealjbpdehaaDoorQ1WN
import Derived.Laws.StructEq
import Derived.Test.YtfddealjbpdehaaDoorQ1WRepsOne
import Derived.Test.YtfddealjbpdehaaDoorQ1WMore
namespace Go.Proofs.YtfddealjbpdehaaDoor.A
open Go.RowKit Go.Proofs.YtfddealjbpdehaaDoorW.PrintWords Go.Proofs.YtfddealjbpdehaaDoorW.PrintLast Go.Proofs.YtfddealjbpdehaaDoorW.PrintMore
attribute [local go_sem] max2_int min2_int max_two min_two max_three min_three max_four min_four
set_option linter.unusedVariables false
set_option linter.unusedSimpArgs false
def errW : Option Int → Value
 | none => .nilIface
 | some c => .iface 0 (.int .i64 c)
theorem errW_none : errW none = .nilIface := rfl
theorem errW_some (c : Int) : errW (some c) = .iface 0 (.int .i64 c) := rfl
theorem info5 : (Tryd.prog.info? 5).map (fun i => (i.zero, i.size, i.bytes)) = some (some (.int .u8 0), 1, 1) := by kernel_rfl
theorem info9 : (Tryd.prog.info? 9).map (fun i => (i.zero, i.size, i.bytes)) = some (some (.string ⟨#[]⟩), 1, 16) := by kernel_rfl
end Go.Proofs.YtfddealjbpdehaaDoor.A
