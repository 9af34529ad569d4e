/- No condition. -/
import Derived.Test.YthdabpmcojmhhaaClientPlaysSd
import Derived.Test.YthdabpmcojmhhaaClientPlaysSi
import Derived.Test.YthdabpmcojmhhaaClientPlaysSc
import Derived.Test.YthdabpmcojmhhaaClientPlaysSc1
import Derived.Test.YthdabpmcojmhhaaRxBd
namespace Go.Proofs.Ythdabpmcojmhhaa
open Go Go.Rx Go.Proofs
set_option maxRecDepth 100000
def B : zaf := (orC (cloneO 54 11 50) (orC (insO 54 11 84) (orC (delO 54 11 86) (cloneO 58 25 45))))
theorem B_meets : Meets Try.prog B := (Meets.or (cloneO_meets (by decide) ⟨_, Try.func50, by kernel_rfl, by kernel_rfl⟩ clone_ok) (Meets.or (insO_meets (yao (by kernel_rfl)) ⟨_, Try.func84, by kernel_rfl, by kernel_rfl⟩ insert_ok) (Meets.or (delO_meets (yao (by kernel_rfl)) ⟨_, Try.func86, by kernel_rfl, by kernel_rfl⟩ delete_ok) (cloneO_meets (by decide) ⟨_, Try.func45, by kernel_rfl, by kernel_rfl⟩ clone1_ok))))
end Go.Proofs.Ythdabpmcojmhhaa
