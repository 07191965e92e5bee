/- Routes: the nodes they come by, in plain Lean; a route in memory. Conditions: none. -/
import Derived.Test.YtdnmkcalpfkfhaaNetIs
import Derived.Test.YtdnmkcalpfkfhaaFind
import Derived.Test.YtdnmkcalpfkfhaaOther
import Derived.Test.YtdnmkcalpfkfhaaApp
namespace Go.Proofs.Ytdnmkcalpfkfhaa
open Go.RowKit
/-- The node after k fibers. -/
def atW (fs : List Fib) (s : Int) (ids : List Int) : Nat → Int
  | 0 => s
  | k + 1 => otherF (fs.getD (ids.getD k 0).toNat ⟨0, 0, 0, 0⟩) (atW fs s ids k)
/-- The nodes up to there. -/
def outW (fs : List Fib) (s : Int) (ids : List Int) (k : Nat) : List Int := (List.range (k + 1)).map (atW fs s ids)
theorem outW_len (fs : List Fib) (s : Int) (ids : List Int) (k : Nat) : (outW fs s ids k).length = k + 1 := by simp [outW]
theorem outW_zero (fs : List Fib) (s : Int) (ids : List Int) : outW fs s ids 0 = [s] := rfl
theorem outW_succ (fs : List Fib) (s : Int) (ids : List Int) (k : Nat) : outW fs s ids (k + 1) = outW fs s ids k ++ [atW fs s ids (k + 1)] := by unfold outW; rw [List.range_succ (n := k + 1), List.map_append]; rfl
theorem outW_get (fs : List Fib) (s : Int) (ids : List Int) (k : Nat) : (outW fs s ids k)[k]? = some (atW fs s ids k) := by simp [outW]
theorem atW_succ {fs : List Fib} {s : Int} {ids : List Int} {k : Nat} {i : Int} {f : Fib} (hi : ids[k]? = some i) (hf : fs[i.toNat]? = some f) : atW fs s ids (k + 1) = otherF f (atW fs s ids k) := by
  show otherF _ _ = _
  rw [getD_of hi, getD_of hf]
/-- Step k is one that a route may take. -/
def okW (m : Nat) (fs : List Fib) (s : Int) (ids : List Int) (k : Nat) : Bool :=
  inB 0 ((m : Int) - 1) (ids.getD k 0) && (!decide (atW fs s ids (k + 1) < 0) && !hasB (outW fs s ids k) (atW fs s ids (k + 1)))
/-- Is it a route (of a network that is valid)? -/
def rtB (n : Nat) (fs : List Fib) (s : Int) (ids : List Int) : Bool := inB 0 ((n : Int) - 1) s && (!(ids.length == 0) && allB (okW fs.length fs s ids) ids.length)
/-- Its nodes; none of what is no route. -/
def rtL (n : Nat) (fs : List Fib) (s : Int) (ids : List Int) : List Int := if rtB n fs s ids then outW fs s ids ids.length else []
theorem rtL_yes {n : Nat} {fs : List Fib} {s : Int} {ids : List Int} (h : rtB n fs s ids = true) : rtL n fs s ids = outW fs s ids ids.length := if_pos h
theorem rtL_no {n : Nat} {fs : List Fib} {s : Int} {ids : List Int} (h : rtB n fs s ids = false) : rtL n fs s ids = [] := by unfold rtL; rw [h]; rfl
/-- .. of a network that may be invalid. -/
def routeB (xs : List ByteArray) (fs : List Fib) (s : Int) (ids : List Int) : Bool := goodB xs fs && rtB xs.length fs s ids
/-- A route lies in memory. -/
def RtIs (w : World) (R : Option Addr) (k e : Nat) (ids : List Int) : Prop := (k ≤ e ∧ k ≤ 1048576) ∧ Sees elInt w w.heap.size R k ids
section
variable {w w' : World} {R : Option Addr} {k e : Nat} {ids : List Int}
theorem RtIs.grow (h : RtIs w R k e ids) (hb : Below w.heap.size w w') : RtIs w' R k e ids := ⟨h.1, (h.2.grow hb).more hb.size⟩
theorem RtIs.len (h : RtIs w R k e ids) : ids.length = k := h.2.len
theorem RtIs.le (h : RtIs w R k e ids) : k ≤ 1048576 := h.1.2
end
end Go.Proofs.Ytdnmkcalpfkfhaa
