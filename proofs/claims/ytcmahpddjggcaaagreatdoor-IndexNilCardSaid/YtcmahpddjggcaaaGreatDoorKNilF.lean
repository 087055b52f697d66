/- latticelaw12.IndexNil: the closed facts that its row asks. -/
import Derived.Test.YtcmahpddjggcaaaGreatDoorCards
import Derived.JoinedOf
import Derived.KernelRfl
namespace Go.Proofs.YtcmahpddjggcaaaGreatDoor
open Go
set_option maxRecDepth 100000
set_option maxHeartbeats 8000000
theorem and_mk {a b : Bool} (h : a = true) (k : b = true) : (a && b) = true := by rw [h, k]; rfl
theorem nil_facts : joinedFacts Tryz.pinned.checked.prog 3 Tryz.f3 Rows.indexNilSpec Rows.indexNilRow = true := by
  unfold joinedFacts
  repeat' with_reducible refine and_mk ?_ ?_
  all_goals (as_aux_lemma => kernel_rfl)
end Go.Proofs.YtcmahpddjggcaaaGreatDoor
