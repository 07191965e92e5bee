/- Routes in the ledger: equal, marked, held. Conditions: at most 1048576 fibers; marks below 2^40. -/
import Derived.Test.YtdnmkcalpfkfhaaLed
import Derived.Test.YtdnmkcalpfkfhaaRtFns
namespace Go.Proofs.Ytdnmkcalpfkfhaa
open Go.RowKit
variable {w0 : World} {L : List Thing} {base base' c c' : Nat} {A A' : Option Addr} {ids : List Int}
set_option maxHeartbeats 1000000 in
set_option maxRecDepth 100000 in
theorem markR_led {w : World} (h : Led w0 w L) (i : Nat) (hi : L[i]? = some (tOwns elInt base 3 (.slice A ids.length c) ids)) (s k : Int) (hn : ids.length ≤ 1048576) (hk0 : 0 ≤ k) (hk : k ≤ 1099511627776) :
    Calls Try.prog 25 #[.agg #[.int .i64 s, .slice A ids.length c], .int .i64 k] w fun e w' => e = .returned (.int .i64 (k + ids.length)) ∧ Led w0 w' (L.set i (tOwns elInt base 3 (.slice A ids.length c) (marks k ids.length))) := by
  have h0 := h.blk 37 #[.int .i64 s, .slice A ids.length c]
  go_enter Try.func25, Try.ntmps25
  go_wp2_with fail
  refine (markI_led h0 (i + 1) (by simpa using hi) k hn hk0 hk).mono ?_
  rintro e w1 ⟨rfl, h1⟩
  have h2 : Led w0 w1 (L.set i (tOwns elInt base 3 (.slice A ids.length c) (marks k ids.length))) := h1.drop 1
  go_wp2_with fail
  go_ret
  exact ⟨rfl, h2⟩
set_option maxHeartbeats 1000000 in
set_option maxRecDepth 100000 in
theorem heldR_led {w : World} (h : Led w0 w L) (i : Nat) (s k : Int) {n : Nat} (hi : L[i]? = some (tOwns elInt base 3 (.slice A n c) (marks k n))) (hn : n ≤ 1048576) (hk0 : 0 ≤ k) (hk : k ≤ 1099511627776) :
    Calls Try.prog 34 #[.agg #[.int .i64 s, .slice A n c], .int .i64 k] w fun e w' => e = .returned (.int .i64 (k + n)) ∧ Led w0 w' L := by
  have h0 := h.blk 37 #[.int .i64 s, .slice A n c]
  go_enter Try.func34, Try.ntmps34
  go_wp2_with fail
  refine (heldI_led h0 (i + 1) k (by simpa using hi) hn hk0 hk).mono ?_
  rintro e w1 ⟨rfl, h1⟩
  have h2 : Led w0 w1 L := h1.drop 1
  go_wp2_with fail
  go_ret
  exact ⟨rfl, h2⟩
theorem eqR_led2 {w : World} (h : Led w0 w L) (i j : Nat) (hi : L[i]? = some (tOwns elInt base 3 (.slice A ids.length c) ids)) (hj : L[j]? = some (tOwns elInt base' 3 (.slice A' ids.length c') ids)) (s : Int) (hn : ids.length ≤ 1048576) :
    Calls Try.prog 23 #[.agg #[.int .i64 s, .slice A ids.length c], .agg #[.int .i64 s, .slice A' ids.length c']] w fun e w' => e = .returned (.bool true) ∧ Led w0 w' L ∧ Below w.heap.size w w' :=
  (eqRoute_any s w (h.seesI i hi) (h.seesI j hj) hn).mono fun _ _ ⟨he, hw⟩ => ⟨he, h.step hw, hw⟩
theorem eqR_led {w : World} (h : Led w0 w L) (i j : Nat) (hi : L[i]? = some (tOwns elInt base 3 (.slice A ids.length c) ids)) (hj : L[j]? = some (tOwns elInt base' 3 (.slice A' ids.length c') ids)) (s : Int) (hn : ids.length ≤ 1048576) :
    Calls Try.prog 23 #[.agg #[.int .i64 s, .slice A ids.length c], .agg #[.int .i64 s, .slice A' ids.length c']] w fun e w' => e = .returned (.bool true) ∧ Led w0 w' L :=
  (eqR_led2 h i j hi hj s hn).mono fun _ _ ⟨he, hw, _⟩ => ⟨he, hw⟩
end Go.Proofs.Ytdnmkcalpfkfhaa
