/- eqFiber, eqFiberS and eqNetwork, walked: what shows one list is equal. Conditions: none. -/
import Derived.Test.YtdnmkcalpfkfhaaEqS
import Derived.Test.YtdnmkcalpfkfhaaFib
namespace Go.Proofs.Ytdnmkcalpfkfhaa
open Go.RowKit
set_option maxRecDepth 100000 in
theorem eqFiber_any (f : Fib) (w : World) :
    Calls Try.prog 111 #[fibV f, fibV f] w fun e w' => e = .returned (.bool true) ∧ Below w.heap.size w w' := by
  obtain ⟨a, b, l, r⟩ := f
  unfold fibV
  go_enter Try.func111, Try.ntmps111
  go_wp2
  go_ret
  exact ⟨rfl, bl_alloc (bl_alloc (Below.refl _ _) _) _⟩
set_option maxHeartbeats 1000000 in
set_option maxRecDepth 100000 in
theorem eqFiberS_any {B B' n c c' : Nat} {A A' : Option Addr} {xs : List Fib} (w : World) (hA : Sees elFib w B A n xs) (hA' : Sees elFib w B' A' n xs) (hn : n ≤ maxLen) :
    Calls Try.prog 64 #[.slice A n c, .slice A' n c'] w fun e w' => e = .returned (.bool true) ∧ Below w.heap.size w w' := by
  unfold maxLen at hn
  go_enter Try.func64, Try.ntmps64
  go_wp2
  go_loopw [5] (fun i wr => ∃ k : Nat, k ≤ n ∧ i = .int .i64 k ∧ Below w.heap.size w wr) (fun i _ => n - (intOf i).toNat)
  case atStart => exact ⟨0, Nat.zero_le _, rfl, Below.refl _ _⟩
  case round =>
    obtain ⟨k, hk, rfl, hb⟩ := hrel
    by_cases hlt : k < n
    · obtain ⟨b, o, rfl, _, hc⟩ := hA.at_ hlt
      obtain ⟨b', o', rfl, _, hc'⟩ := hA'.at_ hlt
      obtain ⟨f, hfk⟩ : ∃ x, xs[k]? = some x := ⟨xs[k]'(by rw [hA.len]; exact hlt), List.getElem?_eq_getElem _⟩
      have T0 : ∀ w', Cls wr w' → w'.cell? ⟨b, o + k * 4, none⟩ = some (.int .i64 f.a) := fun _ h => h.cell (bl_cell hb (hc k f hfk 0 _ rfl))
      have T1 : ∀ w', Cls wr w' → w'.cell? ⟨b, o + k * 4 + 1, none⟩ = some (.int .i64 f.b) := fun _ h => h.cell (bl_cell hb (hc k f hfk 1 _ rfl))
      have T2 : ∀ w', Cls wr w' → w'.cell? ⟨b, o + k * 4 + 2, none⟩ = some (.int .i64 f.len) := fun _ h => h.cell (bl_cell hb (hc k f hfk 2 _ rfl))
      have T3 : ∀ w', Cls wr w' → w'.cell? ⟨b, o + k * 4 + 3, none⟩ = some (.int .i64 f.risk) := fun _ h => h.cell (bl_cell hb (hc k f hfk 3 _ rfl))
      have S0 : ∀ w', Cls wr w' → w'.cell? ⟨b', o' + k * 4, none⟩ = some (.int .i64 f.a) := fun _ h => h.cell (bl_cell hb (hc' k f hfk 0 _ rfl))
      have S1 : ∀ w', Cls wr w' → w'.cell? ⟨b', o' + k * 4 + 1, none⟩ = some (.int .i64 f.b) := fun _ h => h.cell (bl_cell hb (hc' k f hfk 1 _ rfl))
      have S2 : ∀ w', Cls wr w' → w'.cell? ⟨b', o' + k * 4 + 2, none⟩ = some (.int .i64 f.len) := fun _ h => h.cell (bl_cell hb (hc' k f hfk 2 _ rfl))
      have S3 : ∀ w', Cls wr w' → w'.cell? ⟨b', o' + k * 4 + 3, none⟩ = some (.int .i64 f.risk) := fun _ h => h.cell (bl_cell hb (hc' k f hfk 3 _ rfl))
      clear hc hc' hfk
      have i1 : (k : Int) < (n : Int) := by omega
      go_wp2
      refine region_cls (by kernel_rfl) (by kernel_rfl) ?_
      repeat (first
        | ((with_reducible refine quiet_pos ?_ (fun K hK => ?_))
           · rfl
           apply Exists.intro
           refine ⟨fun w' hw' => ?_, ?_⟩
           · go_simp
             first
               | with_reducible rfl
               | (go_at_call 111; exact hw'.call (eqFiber_any f _))
           simp only [Act.put, List.setIfInBounds_toArray, List.set_cons_zero, List.set_cons_succ]
           refine hK _ ?_; clear hK K))
      with_reducible refine wpQuiet_nil ?_
      intro w3 hw3
      go_wp2
      go_roundw
      case rel => exact ⟨k + 1, by omega, by go_num, bl_then hb hw3⟩
      case measure => simp [intOf]; omega
    · go_wp2
      go_ret
      exact ⟨rfl, hb⟩
set_option maxHeartbeats 1000000 in
set_option maxRecDepth 100000 in
theorem eqNetwork_any {B B' n c c' m d d' : Nat} {A A' E E' : Option Addr} {xs : List ByteArray} {fs : List Fib} (w : World) (hA : Sees elStr w B A n xs) (hA' : Sees elStr w B' A' n xs) (hF : Sees elFib w B E m fs) (hF' : Sees elFib w B' E' m fs)
    (hB : B ≤ w.heap.size) (hB' : B' ≤ w.heap.size) (hn : n ≤ maxLen) (hm : m ≤ maxLen) :
    Calls Try.prog 22 #[.agg #[.slice A n c, .slice E m d], .agg #[.slice A' n c', .slice E' m d']] w fun e w' => e = .returned (.bool true) ∧ Below w.heap.size w w' := by
  have hb0 : Below w.heap.size w ((w.alloc (.cells #[.slice A n c, .slice E m d] 35)).alloc (.cells #[.slice A' n c', .slice E' m d'] 35)) := bl_alloc (bl_alloc (Below.refl _ _) _) _
  have k1 := hA.below (hb0.mono hB)
  have k2 := hA'.below (hb0.mono hB')
  have k3 := hF.below (hb0.mono hB)
  have k4 := hF'.below (hb0.mono hB')
  go_enter Try.func22, Try.ntmps22
  go_wp2_with fail
  refine (eqStringS_any _ k1 k2 hn).mono ?_
  rintro e w1 ⟨rfl, q, rfl⟩
  go_wp2_with fail
  refine (eqFiberS_any _ (k3.drewN q) (k4.drewN q) hm).mono ?_
  rintro e w2 ⟨rfl, hb2⟩
  go_wp2_with fail
  go_ret
  exact ⟨rfl, bl_then (bl_drewN hb0 q) hb2⟩
end Go.Proofs.Ytdnmkcalpfkfhaa
