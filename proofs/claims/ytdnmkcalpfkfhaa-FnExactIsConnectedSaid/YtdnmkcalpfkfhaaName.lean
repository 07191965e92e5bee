/- Names, walked: the program's isName and the reference's l2Name are one function of the bytes. Conditions: none. -/
import Derived.Test.YtdnmkcalpfkfhaaNet0
import Derived.Test.YtdnmkcalpfkfhaaChk
import Derived.Deep.QuietTactic
import Derived.BigQuiet
namespace Go.Proofs.Ytdnmkcalpfkfhaa
open Go.RowKit
def letB (c : UInt8) : Bool := decide (97 ≤ c.toNat ∧ c.toNat ≤ 122)
def digB (c : UInt8) : Bool := decide (48 ≤ c.toNat ∧ c.toNat ≤ 57)
/-- What the bytes of a name pass, from place k on. -/
def okAt (k : Nat) (c : UInt8) : Bool := letB c || (digB c && !(k == 0))
def okTo (l : List UInt8) (k : Nat) : Prop := ∀ j c, j < k → l[j]? = some c → okAt j c = true
def nameB (l : List UInt8) : Bool := decide (1 ≤ l.length ∧ l.length ≤ 8) && (l.zipIdx.all fun x => okAt x.2 x.1)
theorem okTo_all {l : List UInt8} : okTo l l.length ↔ (l.zipIdx.all fun x => okAt x.2 x.1) = true := by
  constructor
  · intro h
    rw [List.all_eq_true]
    rintro ⟨c, j⟩ hx
    rw [List.mem_zipIdx_iff_getElem?] at hx
    exact h j c (List.getElem?_eq_some_iff.1 hx).1 hx
  · intro h j c hj hc
    rw [List.all_eq_true] at h
    exact h (c, j) (List.mem_zipIdx_iff_getElem?.2 hc)
theorem okTo_succ {l : List UInt8} {k : Nat} {c : UInt8} (h : okTo l k) (hc : l[k]? = some c) (ho : okAt k c = true) : okTo l (k + 1) := by
  intro j d hj hd
  rcases Nat.lt_succ_iff_lt_or_eq.1 hj with hlt | rfl
  · exact h j d hlt hd
  · rw [hc] at hd; injection hd with hd; subst hd; exact ho
theorem nameB_no {l : List UInt8} {k : Nat} {c : UInt8} (hc : l[k]? = some c) (ho : okAt k c = false) : nameB l = false := by
  unfold nameB
  rw [Bool.and_eq_false_iff]
  refine .inr ?_
  rw [← Bool.not_eq_true, ← okTo_all]
  intro h
  have := h k c (List.getElem?_eq_some_iff.1 hc).1 hc
  rw [ho] at this; cases this
theorem nameB_yes {l : List UInt8} (h : okTo l l.length) : nameB l = inB 1 8 l.length := by
  unfold nameB inB
  rw [okTo_all.1 h, Bool.and_true]
  rw [Bool.eq_iff_iff]; simp only [decide_eq_true_eq]; omega
theorem byte_cases (c : Nat) : c < 48 ∨ (48 ≤ c ∧ c ≤ 57) ∨ (58 ≤ c ∧ c < 97) ∨ (97 ≤ c ∧ c ≤ 122) ∨ 122 < c := by omega
theorem size_list (s : ByteArray) : s.data.toList.length = s.size := by simp
theorem get_list (s : ByteArray) (k : Nat) (h : k < s.size) : s.data.toList[k]? = some s[k] := by
  rw [List.getElem?_eq_getElem (by simpa using h)]; rfl
set_option maxHeartbeats 1000000 in
theorem isName_any (s : ByteArray) (w : World) (hs : s.size ≤ maxLen) :
    Calls Try.prog 105 #[.string s] w fun e w' => e = .returned (.bool (nameB s.data.toList)) ∧ ∃ n, w' = w.drewN n := by
  unfold maxLen at hs
  go_enter Try.func105, Try.ntmps105
  go_wp2
  go_loopw [8] (fun i wr => ∃ k n : Nat, k ≤ s.size ∧ i = .int .i64 k ∧ Hid (okTo s.data.toList k) ∧ wr = w.drewN n) (fun i _ => s.size - (intOf i).toNat)
  case atStart => exact ⟨0, 0, Nat.zero_le _, rfl, fun j c hj => by omega, rfl⟩
  case round =>
    obtain ⟨k, n, hk, rfl, hok, rfl⟩ := hrel
    by_cases hlt : k < s.size
    · have hg := get_list s k hlt
      have hb : (s[k].toNat : Int) < 256 := by have := s[k].toNat_lt; omega
      have hg' : ∀ b, okAt k s[k] = b → b = true → Hid (okTo s.data.toList (k + 1)) := fun b hb1 hb2 => okTo_succ hok hg (hb1.trans hb2)
      have hno : ∀ b, okAt k s[k] = b → b = false → Hid (nameB s.data.toList = false) := fun b hb1 hb2 => nameB_no hg (hb1.trans hb2)
      generalize hc : s[k] = c at hb hg hg' hno
      have hget : s[k] = c := hc
      clear hc
      rcases byte_cases c.toNat with h1 | ⟨h1, h2⟩ | ⟨h1, h2⟩ | ⟨h1, h2⟩ | h1
      · have d1 : decide ((97 : Int) ≤ (c.toNat : Int)) = false := by simp; omega
        have d3 : decide ((48 : Int) ≤ (c.toNat : Int)) = false := by simp; omega
        have HN := hno _ (by unfold okAt letB digB; simp; omega) rfl
        clear hg' hno hg
        go_wp2
        go_quiet (fail)
        go_wp2
        go_ret
        exact ⟨by rw [HN.out]; rfl, _, rfl⟩
      · by_cases hk0 : k = 0
        · subst hk0
          have d1 : decide ((97 : Int) ≤ (c.toNat : Int)) = false := by simp; omega
          have d3 : decide ((48 : Int) ≤ (c.toNat : Int)) = true := by simp; omega
          have d4 : decide ((c.toNat : Int) ≤ 57) = true := by simp; omega
          have HN := hno _ (by unfold okAt letB digB; simp; omega) rfl
          clear hg' hno hg
          go_wp2
          go_quiet (fail)
          go_wp2
          go_ret
          exact ⟨by rw [HN.out]; rfl, _, rfl⟩
        · have hk1 : ((k : Int) == 0) = false := by simp; omega
          have d1 : decide ((97 : Int) ≤ (c.toNat : Int)) = false := by simp; omega
          have d3 : decide ((48 : Int) ≤ (c.toNat : Int)) = true := by simp; omega
          have d4 : decide ((c.toNat : Int) ≤ 57) = true := by simp; omega
          have HY := hg' _ (by unfold okAt letB digB; simp; omega) rfl
          clear hg' hno hg
          go_wp2
          go_quiet (fail)
          go_wp2
          go_roundw
          case rel => exact ⟨k + 1, _, by omega, by go_num, HY, rfl⟩
          case measure => simp [intOf]; omega
      · have d1 : decide ((97 : Int) ≤ (c.toNat : Int)) = false := by simp; omega
        have d3 : decide ((48 : Int) ≤ (c.toNat : Int)) = true := by simp; omega
        have d4 : decide ((c.toNat : Int) ≤ 57) = false := by simp; omega
        have HN := hno _ (by unfold okAt letB digB; simp; omega) rfl
        clear hg' hno hg
        go_wp2
        go_quiet (fail)
        go_wp2
        go_ret
        exact ⟨by rw [HN.out]; rfl, _, rfl⟩
      · have d1 : decide ((97 : Int) ≤ (c.toNat : Int)) = true := by simp; omega
        have d2 : decide ((c.toNat : Int) ≤ 122) = true := by simp; omega
        have d3 : decide ((48 : Int) ≤ (c.toNat : Int)) = true := by simp; omega
        have d4 : decide ((c.toNat : Int) ≤ 57) = false := by simp; omega
        have HY := hg' _ (by unfold okAt letB digB; simp; omega) rfl
        clear hg' hno hg
        go_wp2
        go_quiet (fail)
        go_wp2
        go_roundw
        case rel => exact ⟨k + 1, _, by omega, by go_num, HY, rfl⟩
        case measure => simp [intOf]; omega
      · have d1 : decide ((97 : Int) ≤ (c.toNat : Int)) = true := by simp; omega
        have d2 : decide ((c.toNat : Int) ≤ 122) = false := by simp; omega
        have d3 : decide ((48 : Int) ≤ (c.toNat : Int)) = true := by simp; omega
        have d4 : decide ((c.toNat : Int) ≤ 57) = false := by simp; omega
        have HN := hno _ (by unfold okAt letB digB; simp; omega) rfl
        clear hg' hno hg
        go_wp2
        go_quiet (fail)
        go_wp2
        go_ret
        exact ⟨by rw [HN.out]; rfl, _, rfl⟩
    · go_wp2_with (go_at_call 107; refine (within_any _ _ _ _).mono ?_; rintro e w' ⟨rfl, rfl⟩)
      go_ret
      have : k = s.size := by omega
      subst this
      exact ⟨by rw [nameB_yes (by rw [size_list]; exact hok.out), size_list]; rfl, _, rfl⟩
end Go.Proofs.Ytdnmkcalpfkfhaa
