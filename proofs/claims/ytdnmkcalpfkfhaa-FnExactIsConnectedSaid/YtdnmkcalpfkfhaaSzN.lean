/- szFiberS and szNetwork, walked. Conditions: the number lies in 0 .. 1048576. -/
import Derived.Test.YtdnmkcalpfkfhaaSz
import Derived.Test.YtdnmkcalpfkfhaaFib
namespace Go.Proofs.Ytdnmkcalpfkfhaa
open Go.RowKit
set_option maxRecDepth 100000 in
theorem szFiberS_any {n c : Nat} {A : Option Addr} (left : Int) (w : World) (hn : n ≤ maxLen) (h0 : 0 ≤ left) (hl : left ≤ 1048576) :
    Calls Try.prog 55 #[.slice A n c, .int .i64 left] w fun e w' => e = .returned (.int .i64 (lessI left n)) ∧ w = w' := by
  unfold maxLen at hn
  by_cases hs : (n : Int) ≤ left
  · have HN := hid (lessI_pos hs)
    go_enter Try.func55, Try.ntmps55
    go_wp2
    go_ret
    exact ⟨by rw [HN.out]; rfl, rfl⟩
  · have HN := hid (lessI_neg (left := left) (t := n) (by omega))
    go_enter Try.func55, Try.ntmps55
    go_wp2
    go_ret
    exact ⟨by rw [HN.out]; rfl, rfl⟩
theorem lessI_bd {left : Int} {t : Nat} : (lessI left t = -1 ∧ left < t) ∨ (0 ≤ lessI left t ∧ lessI left t ≤ left ∧ (t : Int) ≤ left) := by
  unfold lessI; split <;> omega
theorem lessI_lessI {left : Int} {s t : Nat} : lessI left (s + t) = if lessI left s < 0 then -1 else lessI (lessI left s) t := by
  unfold lessI; split <;> split <;> (try split) <;> omega
/-- What a network holds: names, letters, fibers. -/
def netTot {α : Type} (xs : List ByteArray) (fs : List α) : Nat := strTot xs + fs.length
set_option maxHeartbeats 1000000 in
set_option maxRecDepth 100000 in
theorem szNetwork_any {B n c m d : Nat} {A A' : Option Addr} {xs : List ByteArray} {fs : List Fib} (left : Int) (w : World) (hA : Sees elStr w B A n xs) (hF : Sees elFib w B A' m fs) (hB : B ≤ w.heap.size) (hn : n ≤ maxLen) (hm : m ≤ maxLen)
    (hx : ∀ x ∈ xs, x.size ≤ maxLen) (h0 : 0 ≤ left) (hl : left ≤ 1048576) :
    Calls Try.prog 15 #[.agg #[.slice A n c, .slice A' m d], .int .i64 left] w fun e w' => e = .returned (.int .i64 (lessI left (netTot xs fs))) ∧ Below w.heap.size w w' := by
  have hA' : Sees elStr (w.alloc (.cells #[.slice A n c, .slice A' m d] 25)) B A n xs := hA.below ((bl_alloc (Below.refl _ _) _).mono hB)
  have hll := lessI_lessI (left := left) (s := strTot xs) (t := fs.length)
  rw [hF.len] at hll
  unfold netTot
  rw [hF.len]
  rcases lessI_bd (left := left) (t := strTot xs) with ⟨h1, _⟩ | ⟨h1, h2, _⟩
  · have HN : Hid (lessI left (strTot xs + m) = -1) := by rw [hll, if_pos (by omega)]; rfl
    have HS := hid h1
    clear hll h1
    go_enter Try.func15, Try.ntmps15
    go_wp2_with fail
    refine (szStringS_any left _ hA' hn hx h0 hl).mono ?_
    rintro e w' ⟨rfl, rfl⟩
    rw [HS.out]
    go_wp2_with fail
    go_ret
    exact ⟨by rw [HN.out]; rfl, bl_alloc (Below.refl _ _) _⟩
  · have HN : Hid (lessI left (strTot xs + m) = lessI (lessI left (strTot xs)) m) := by rw [hll, if_neg (by omega)]; rfl
    clear hll
    go_enter Try.func15, Try.ntmps15
    go_wp2_with fail
    refine (szStringS_any left _ hA' hn hx h0 hl).mono ?_
    rintro e w' ⟨rfl, rfl⟩
    generalize lessI left (strTot xs) = r at *
    rcases lessI_bd (left := r) (t := m) with ⟨h3, _⟩ | ⟨h3, h4, _⟩
    · have HS := hid h3
      clear h3
      go_wp2_with fail
      refine (szFiberS_any r _ hm h1 (by omega)).mono ?_
      rintro e w' ⟨rfl, rfl⟩
      rw [HS.out]
      go_wp2_with fail
      go_ret
      exact ⟨by rw [HN.out, HS.out]; rfl, bl_alloc (Below.refl _ _) _⟩
    · go_wp2_with fail
      refine (szFiberS_any r _ hm h1 (by omega)).mono ?_
      rintro e w' ⟨rfl, rfl⟩
      go_wp2_with fail
      go_ret
      exact ⟨by rw [HN.out]; rfl, bl_alloc (Below.refl _ _) _⟩
end Go.Proofs.Ytdnmkcalpfkfhaa
