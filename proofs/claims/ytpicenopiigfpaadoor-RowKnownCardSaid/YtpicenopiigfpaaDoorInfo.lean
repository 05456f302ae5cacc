/-
  Rows of this program's table of types that the walks ask for; no condition.
-/
import Derived.Test.YtpicenopiigfpaaDoorProg
import Derived.KernelRfl
namespace Go.Proofs.YtpicenopiigfpaaDoor
theorem infoByte : (Tryd.prog.info? 5).map (fun i => (i.zero, i.size, i.bytes)) = some (some (.int .u8 0), 1, 1) := by kernel_rfl
end Go.Proofs.YtpicenopiigfpaaDoor
