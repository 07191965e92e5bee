/- eqIntSS, walked. Conditions: at most 1048576 rows and numbers in a row. -/
import Derived.Test.YtldheoomlagapaaRows
import Derived.Test.YtldheoomlagapaaSs
import Derived.Test.YtldheoomlagapaaNet1
namespace Go.Proofs.Ytldheoomlagapaa
open Go.RowKit
/-- Rows of numbers as they read. -/
def SeesSS (w : World) (A : Option Addr) (n : Nat) (ss : List Sl) (rows : List (List Int)) : Prop :=
  Sees elSl w w.heap.size A n ss ∧ ss.length = rows.length ∧ ∀ (i : Nat) s r, ss[i]? = some s → rows[i]? = some r → s.n = r.length ∧ Sees elInt w w.heap.size s.A s.n r
theorem OwnsSS.sees {w : World} {base n c : Nat} {A : Option Addr} {ss : List Sl} {rows : List (List Int)} (h : OwnsSS w base (.slice A n c) ss rows) : SeesSS w A ss.length ss rows := by
  refine ⟨h.1.sees, h.2.1, fun i s r h1 h2 => ?_⟩
  have ho := h.2.2.1 i s r h1 h2
  obtain ⟨A', c', hv, _, _, hs⟩ := ho.form
  unfold slV at hv
  injection hv with e1 e2 e3
  exact ⟨e2, by rw [e1, e2]; exact hs⟩
theorem SeesSS.grow {w w' : World} {A : Option Addr} {n : Nat} {ss : List Sl} {rows : List (List Int)} (h : SeesSS w A n ss rows) (hb : Below w.heap.size w w') : SeesSS w' A n ss rows :=
  ⟨(h.1.grow hb).more hb.size, h.2.1, fun i s r h1 h2 => ⟨(h.2.2 i s r h1 h2).1, ((h.2.2 i s r h1 h2).2.grow hb).more hb.size⟩⟩
set_option maxHeartbeats 1000000 in
set_option maxRecDepth 100000 in
theorem eqIntSS_any {A A' : Option Addr} {n c c' : Nat} {ss ss' : List Sl} {rows : List (List Int)} (w : World) (h1 : SeesSS w A n ss rows) (h2 : SeesSS w A' n ss' rows) (hn : n ≤ 1048576) (hr : ∀ r ∈ rows, r.length ≤ 1048576) :
    Calls Try.prog 34 #[.slice A n c, .slice A' n c'] w fun e w' => e = .returned (.bool true) ∧ Below w.heap.size w w' := by
  have hlr : rows.length = n := by rw [← h1.2.1]; exact h1.1.len
  have HR := hid hr
  clear hr
  go_enter Try.func34, Try.ntmps34
  go_wp2
  go_loopw [5] (fun i wr => ∃ k : Nat, k ≤ n ∧ i = .int .i64 k ∧ Below w.heap.size w wr) (fun i _ => n - (intOf i).toNat)
  case atStart => exact ⟨0, Nat.zero_le _, rfl, Below.refl _ _⟩
  case round =>
    obtain ⟨k, hk, rfl, hb⟩ := hrel
    by_cases hlt : k < n
    · obtain ⟨r, hrk⟩ := get_of (k := k) hlr hlt
      obtain ⟨s, hsk⟩ := get_of (k := k) h1.1.len hlt
      obtain ⟨s', hsk'⟩ := get_of (k := k) h2.1.len hlt
      obtain ⟨b, o, rfl, _, hc⟩ := h1.1.at_ hlt
      obtain ⟨b', o', rfl, _, hc'⟩ := h2.1.at_ hlt
      have f0 := bl_cell hb (hc k s hsk 0 _ rfl)
      have f1 := bl_cell hb (hc' k s' hsk' 0 _ rfl)
      simp only [elSl, Nat.mul_one, Nat.add_zero, slV] at f0 f1
      have T0 : ∀ w', Cls wr w' → w'.cell? ⟨b, o + k, none⟩ = some (.slice s.A s.n s.c) := fun _ h => h.cell f0
      have T1 : ∀ w', Cls wr w' → w'.cell? ⟨b', o' + k, none⟩ = some (.slice s'.A s'.n s'.c) := fun _ h => h.cell f1
      have HE : Hid (∀ w', Cls wr w' → Calls Try.prog 28 #[.slice s.A s.n s.c, .slice s'.A s'.n s'.c] w' fun e w2 => e = .returned (.bool true) ∧ ∃ q, w2 = w'.drewN q) := fun w' hw' => by
        have a1 := (h1.grow (bl_then hb hw')).2.2 k s r hsk hrk
        have a2 := (h2.grow (bl_then hb hw')).2.2 k s' r hsk' hrk
        have e2 : s'.n = s.n := by rw [a1.1, a2.1]
        have a3 := a2.2
        rw [e2] at a3 ⊢
        exact eqIntS_any w' a1.2 a3 (by rw [a1.1]; exact HR.out r (List.mem_of_getElem? hrk))
      have iz : (k : Int) < (n : Int) := by omega
      clear hc hc' f0 f1
      go_wp2
      refine region_cls (by kernel_rfl) (by kernel_rfl) ?_
      repeat (first
        | ((with_reducible refine quiet_pos ?_ (fun K hK => ?_))
           · rfl
           apply Exists.intro
           refine ⟨fun w' hw' => ?_, ?_⟩
           · go_simp
             first
               | with_reducible rfl
               | (go_at_call 28; with_reducible exact hw'.drewN (HE.out _ hw'))
           simp only [Act.put, List.setIfInBounds_toArray, List.set_cons_zero, List.set_cons_succ]
           refine hK _ ?_; clear hK K)
        | ((with_reducible refine quiet_neg ?_ (fun K hK => ?_))
           · rfl
           simp only [Act.put, List.setIfInBounds_toArray, List.set_cons_zero, List.set_cons_succ]
           refine hK _ ?_; clear hK K))
      with_reducible refine wpQuiet_nil ?_
      intro wz hwz'
      go_wp2
      go_roundw
      case rel => exact ⟨k + 1, by omega, by go_num, bl_then hb hwz'⟩
      case measure => simp [intOf]; omega
    · go_wp2
      go_ret
      exact ⟨rfl, hb⟩
end Go.Proofs.Ytldheoomlagapaa
