/- heldIntSS, walked. Conditions: at most 1048576 rows and numbers in a row; the last mark below 2^40. -/
import Derived.Test.YtldheoomlagapaaRows
import Derived.Test.YtldheoomlagapaaMarkSs
namespace Go.Proofs.Ytldheoomlagapaa
open Go.RowKit
set_option maxHeartbeats 1000000 in
set_option maxRecDepth 100000 in
theorem heldIntSS_any {n c : Nat} {A : Option Addr} {ss : List Sl} {rows : List (List Int)} (k : Int) (w : World) (h : SeesSS w A n ss (marksSS k rows)) (hrl : rows.length = n) (hn : n ≤ 1048576) (hr : ∀ r ∈ rows, r.length ≤ 1048576) (hk0 : 0 ≤ k)
    (hk : offS k rows n ≤ 1099511627776) :
    Calls Try.prog 36 #[.slice A n c, .int .i64 k] w fun e w' => e = .returned (.int .i64 (offS k rows n)) ∧ w = w' := by
  have HR := hid hr
  have HK := hid hk
  have hz : Hid (offS k rows 0 = k) := offS_zero _ _
  have hml : (marksSS k rows).length = n := by simp [marksSS, hrl]
  have HM := hid hml
  clear hr hk hml
  go_enter Try.func36, Try.ntmps36
  go_wp2
  go_loop [1, 5] (fun t i => ∃ (j : Nat) (o : Int), j ≤ n ∧ i = .int .i64 j ∧ t = .int .i64 o ∧ Hid (offS k rows j = o)) (fun _ i => n - (intOf i).toNat)
  case atStart => exact ⟨0, k, Nat.zero_le _, rfl, rfl, hz⟩
  case round =>
    clear hz
    obtain ⟨j, o, hj, rfl, rfl, ho⟩ := hrel
    by_cases hlt : j < n
    · obtain ⟨r, hrj⟩ := get_of (k := j) hrl hlt
      obtain ⟨q, hqj⟩ := get_of (k := j) HM.out hlt
      obtain ⟨s, hsj⟩ := get_of (k := j) h.1.len hlt
      have hs := h.2.2 j s q hsj hqj
      obtain ⟨b, p, rfl, _, hc⟩ := h.1.at_ hlt
      have f0 := hc j s hsj 0 _ rfl
      simp only [elSl, Nat.mul_one, Nat.add_zero, slV] at f0
      have hle := HR.out r (List.mem_of_getElem? hrj)
      have a1 := offS_ge k rows j
      have a2 := offS_le (k := k) (rows := rows) (d := n - j) (j := j) (by omega)
      rw [hrl] at a2
      have a3 := HK.out
      rw [ho.out] at a1 a2
      have hn1 : s.n = r.length := by rw [hs.1, marksSS_get hrj hqj, marks_len]
      have hs2 := hs.2
      rw [marksSS_get hrj hqj, ho.out, hn1] at hs2
      have HC := hid (heldIntS_any (n := r.length) (c := s.c) o w hs2 hle (by omega) (by omega))
      have HO : Hid (offS k rows (j + 1) = o + (r.length : Int)) := by unfold Hid; rw [offS_succ hrj, ho.out]
      have b1 : (0 : Int) ≤ o + (r.length : Int) := by omega
      rw [hn1] at f0
      clear hc hs hs2 hn1 a1 a2 a3 hrj hqj hsj ho
      go_wp2_with fail
      refine HC.out.mono ?_
      rintro e w2 ⟨rfl, hw2⟩
      subst hw2
      go_wp2
      go_round
      case rel => exact ⟨j + 1, _, by omega, by go_num, rfl, HO⟩
      case measure => simp [intOf]; omega
    · have hjn : j = n := by omega
      have HE : Hid (offS k rows n = o) := by rw [← hjn]; exact ho
      clear ho
      go_wp2
      go_ret
      exact ⟨by rw [HE.out]; rfl, rfl⟩
end Go.Proofs.Ytldheoomlagapaa
