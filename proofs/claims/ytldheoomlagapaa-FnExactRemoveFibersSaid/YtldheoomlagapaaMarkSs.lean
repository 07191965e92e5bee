/- markIntSS, walked. Conditions: at most 1048576 rows and numbers in a row; the last mark below 2^40. -/
import Derived.Test.YtldheoomlagapaaRows
import Derived.Test.YtldheoomlagapaaEqSs
namespace Go.Proofs.Ytldheoomlagapaa
open Go.RowKit
/-- The mark at which row j begins. -/
def offS (k : Int) (rows : List (List Int)) (j : Nat) : Int := k + ((((rows.take j).map List.length).sum : Nat) : Int)
theorem offS_zero (k : Int) (rows : List (List Int)) : offS k rows 0 = k := by simp [offS]
theorem offS_succ {k : Int} {rows : List (List Int)} {j : Nat} {r : List Int} (h : rows[j]? = some r) : offS k rows (j + 1) = offS k rows j + (r.length : Int) := by
  unfold offS
  rw [List.take_add_one, h]
  simp
  omega
theorem offS_ge (k : Int) (rows : List (List Int)) (j : Nat) : k ≤ offS k rows j := by unfold offS; omega
theorem offS_le {k : Int} {rows : List (List Int)} : ∀ {d j : Nat}, j + d = rows.length → offS k rows j ≤ offS k rows rows.length := by
  intro d
  induction d with
  | zero => intro j h; rw [show j = rows.length by omega]; exact Int.le_refl _
  | succ d ih =>
    intro j h
    have h1 := ih (j := j + 1) (by omega)
    obtain ⟨r, hr⟩ : ∃ r, rows[j]? = some r := ⟨rows[j]'(by omega), List.getElem?_eq_getElem _⟩
    rw [offS_succ hr] at h1
    omega
/-- Row i behind j rows' marking. -/
def rowM (k : Int) (rows : List (List Int)) (j i : Nat) (r : List Int) : List Int := if i < j then marks (offS k rows i) r.length else r
/-- All rows, marked. -/
def marksSS (k : Int) (rows : List (List Int)) : List (List Int) := (List.range rows.length).map fun i => marks (offS k rows i) (rows.getD i []).length
theorem marksSS_get {k : Int} {rows : List (List Int)} {i : Nat} {r q : List Int} (h : rows[i]? = some r) (hq : (marksSS k rows)[i]? = some q) : q = marks (offS k rows i) r.length := by
  have hi := (List.getElem?_eq_some_iff.1 h).1
  unfold marksSS at hq
  rw [List.getElem?_map, List.getElem?_range hi] at hq
  simp [h] at hq
  exact hq.symm
set_option maxHeartbeats 1000000 in
set_option maxRecDepth 100000 in
theorem markIntSS_any {base n c : Nat} {A : Option Addr} {ss : List Sl} {rows : List (List Int)} (k : Int) (w : World) (h : OwnsSS w base (.slice A n c) ss rows) (hsn : ss.length = n) (hn : n ≤ 1048576) (hr : ∀ r ∈ rows, r.length ≤ 1048576) (hk0 : 0 ≤ k)
    (hk : offS k rows n ≤ 1099511627776) :
    Calls Try.prog 35 #[.slice A n c, .int .i64 k] w fun e w' => e = .returned (.int .i64 (offS k rows n)) ∧ OwnsSS w' base (.slice A n c) ss (marksSS k rows) ∧ Touch (fun b => ∃ (i : Nat) (s : Sl), ss[i]? = some s ∧ (slV s).ownBlock = some b) w w' := by
  have hrl : rows.length = n := by rw [← h.2.1]; exact hsn
  have HR := hid hr
  have HK := hid hk
  have hd := hid h.2.2.2
  have h1 : Hid (Owns elSl w base 40 (.slice A n c) ss) := h.1
  have h2 : Hid (∀ (i : Nat) s r, ss[i]? = some s → rows[i]? = some r → Owns elInt w base 3 (slV s) (rowM k rows 0 i r)) := fun i s r a b => by unfold rowM; rw [if_neg (by omega)]; exact h.2.2.1 i s r a b
  have hz : Hid (offS k rows 0 = k) := offS_zero _ _
  clear hr hk h
  go_enter Try.func35, Try.ntmps35
  go_wp2
  go_loopw [1, 5] (fun t i wr => ∃ (j : Nat) (o : Int), j ≤ n ∧ i = .int .i64 j ∧ t = .int .i64 o ∧ Hid (offS k rows j = o) ∧ Hid (Owns elSl wr base 40 (.slice A n c) ss) ∧
    Hid (∀ (i : Nat) s r, ss[i]? = some s → rows[i]? = some r → Owns elInt wr base 3 (slV s) (rowM k rows j i r)) ∧ Touch (fun b => ∃ (i : Nat) (s : Sl), ss[i]? = some s ∧ (slV s).ownBlock = some b) w wr) (fun _ i _ => n - (intOf i).toNat)
  case atStart => exact ⟨0, k, Nat.zero_le _, rfl, rfl, hz, h1, h2, Touch.refl _ _⟩
  case round =>
    clear h1 h2 hz
    obtain ⟨j, o, hj, rfl, rfl, ho, h1, h2, ht⟩ := hrel
    by_cases hlt : j < n
    · obtain ⟨r, hrj⟩ := get_of (k := j) hrl hlt
      obtain ⟨s, hsj⟩ := get_of (k := j) hsn hlt
      have hso := h1.out.sees
      rw [hsn] at hso
      obtain ⟨b, q, rfl, _, hc⟩ := hso.at_ hlt
      have f0 := hc j s hsj 0 _ rfl
      simp only [elSl, Nat.mul_one, Nat.add_zero, slV] at f0
      have hrw : Owns elInt wr base 3 (slV s) r := by have := h2.out j s r hsj hrj; unfold rowM at this; rw [if_neg (by omega)] at this; exact this
      have hle := HR.out r (List.mem_of_getElem? hrj)
      have a1 := offS_ge k rows j
      have a2 := offS_le (k := k) (rows := rows) (d := n - j) (j := j) (by omega)
      rw [hrl] at a2
      have a3 := HK.out
      rw [ho.out] at a1 a2
      have HC := hid (markIntS_any (n := r.length) o wr hrw rfl hle (by omega) (by omega))
      have HO : Hid (offS k rows (j + 1) = o + (r.length : Int)) := by unfold Hid; rw [offS_succ hrj, ho.out]
      have hne : Hid (∀ g, (Value.slice (some ⟨b, q, none⟩) n c).ownBlock = some g → ¬ ((slV s).ownBlock = some g)) := owns_ne hrw h1.out (by decide)
      clear hc hso hrw a1 a2 a3
      go_wp2_with fail
      unfold slV at HC
      refine HC.out.mono ?_
      rintro e w2 ⟨rfl, how, htw⟩
      have hT := ht.trans (htw.mono (S' := fun b => ∃ (i : Nat) (s : Sl), ss[i]? = some s ∧ (slV s).ownBlock = some b) (fun b hb => ⟨j, s, hsj, hb⟩))
      have hO1 := hid (h1.out.touch htw (fun g hg hg2 => hne.out g hg hg2))
      have hO2 : Hid (∀ (i : Nat) s r, ss[i]? = some s → rows[i]? = some r → Owns elInt w2 base 3 (slV s) (rowM k rows (j + 1) i r)) := fun i s' r' e1 e2 => by
        by_cases hij : i = j
        · subst hij
          rw [hsj] at e1; rw [hrj] at e2
          injection e1 with e1; injection e2 with e2
          subst e1; subst e2
          unfold rowM; rw [if_pos (by omega), ho.out]; exact how
        · have h3 := (h2.out i s' r' e1 e2).touch htw (fun g hg hg2 => by
            rcases Nat.lt_or_gt_of_ne hij with hl | hl
            · exact hd.out i j s' s g hl e1 hsj hg hg2
            · exact hd.out j i s s' g hl hsj e1 hg2 hg)
          have e3 : rowM k rows (j + 1) i r' = rowM k rows j i r' := by unfold rowM; by_cases hi : i < j; rw [if_pos hi, if_pos (by omega)]; rw [if_neg hi, if_neg (by omega)]
          rw [e3]; exact h3
      clear HC how htw h1 h2 ht f0 ho hrj hsj
      go_wp2
      go_roundw
      case rel => exact ⟨j + 1, _, by omega, by go_num, rfl, HO, hO1, hO2, hT⟩
      case measure => simp [intOf]; omega
    · have hjn : j = n := by omega
      have HE : Hid (offS k rows n = o) := by rw [← hjn]; exact ho
      have HF : Hid (OwnsSS wr base (.slice A n c) ss (marksSS k rows)) := by
        refine ⟨h1.out, by simp [marksSS, hrl, hsn], fun i s q e1 e2 => ?_, hd.out⟩
        have hi : i < n := by rw [← hsn]; exact (List.getElem?_eq_some_iff.1 e1).1
        obtain ⟨r, hri⟩ := get_of (k := i) hrl hi
        rw [marksSS_get hri e2]
        have := h2.out i s r e1 hri
        unfold rowM at this; rw [if_pos (by omega)] at this
        exact this
      clear h1 h2 ho
      go_wp2
      go_ret
      exact ⟨by rw [HE.out]; rfl, HF.out, ht⟩
end Go.Proofs.Ytldheoomlagapaa
