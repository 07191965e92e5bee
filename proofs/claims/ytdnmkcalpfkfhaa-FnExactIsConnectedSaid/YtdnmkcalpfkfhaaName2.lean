/- The reference's look at a name, walked: it answers as nameB. Conditions: none. -/
import Derived.Test.YtdnmkcalpfkfhaaName
namespace Go.Proofs.Ytdnmkcalpfkfhaa
open Go.RowKit
set_option maxRecDepth 100000 in
theorem l2Sign_any (c : UInt8) (w : World) : Calls Try.prog 146 #[.int .u8 c.toNat] w fun e w' => e = .returned (.bool (letB c || digB c)) ∧ w = w' := by
  have hb : (c.toNat : Int) < 256 := by have := c.toNat_lt; omega
  rcases byte_cases c.toNat with h1 | ⟨h1, h2⟩ | ⟨h1, h2⟩ | ⟨h1, h2⟩ | h1
  all_goals
    go_enter Try.func146, Try.ntmps146
    go_wp2
    go_ret
    exact ⟨ret_bool (by unfold letB digB; rw [Bool.eq_iff_iff]; simp; omega), rfl⟩
/-- Behind the first byte's look, the rest of the reference's look. -/
theorem nameB_first {l : List UInt8} {c : UInt8} (hc : l[0]? = some c) (h : letB c = false) : nameB l = false := nameB_no hc (by unfold okAt; simp [h])
theorem nameB_long {l : List UInt8} (h : inB 1 8 l.length = false) : nameB l = false := by
  unfold nameB inB at *
  rw [Bool.and_eq_false_iff]
  refine .inl ?_
  rw [← h]; rw [Bool.eq_iff_iff]; simp only [decide_eq_true_eq]; omega
def sgTo (l : List UInt8) (k : Nat) : Prop := ∀ j c, j < k → l[j]? = some c → (letB c || digB c) = true
theorem sgTo_succ {l : List UInt8} {k : Nat} {c : UInt8} (h : sgTo l k) (hc : l[k]? = some c) (ho : (letB c || digB c) = true) : sgTo l (k + 1) := by
  intro j d hj hd
  rcases Nat.lt_succ_iff_lt_or_eq.1 hj with hlt | rfl
  · exact h j d hlt hd
  · rw [hc] at hd; injection hd with hd; subst hd; exact ho
theorem nameB_sg {l : List UInt8} {c0 : UInt8} (h : sgTo l l.length) (hc : l[0]? = some c0) (h0 : letB c0 = true) (hl : inB 1 8 l.length = true) : nameB l = true := by
  rw [nameB_yes, hl]
  intro j c hj hjc
  have := h j c hj hjc
  unfold okAt
  rcases Nat.eq_zero_or_pos j with rfl | hp
  · rw [hc] at hjc; injection hjc with hjc; subst hjc; simp [h0]
  · have : (j == 0) = false := by simp; omega
    rw [this]; simpa using h j c hj hjc
theorem nameB_bad {l : List UInt8} {k : Nat} {c : UInt8} (hc : l[k]? = some c) (h : (letB c || digB c) = false) : nameB l = false := by
  rw [Bool.or_eq_false_iff] at h
  exact nameB_no hc (by unfold okAt; simp [h.1, h.2])
set_option maxHeartbeats 1000000 in
set_option maxRecDepth 100000 in
theorem l2Name_any (s : ByteArray) (w : World) (hs : s.size ≤ maxLen) :
    Calls Try.prog 131 #[.string s] w fun e w' => e = .returned (.bool (nameB s.data.toList)) ∧ w = w' := by
  unfold maxLen at hs
  by_cases hin : inB 1 8 s.size = true
  · have hin' := hin
    unfold inB at hin'
    simp only [decide_eq_true_eq] at hin'
    have h0 : 0 < s.size := by omega
    have hg := get_list s 0 h0
    generalize hc : s[0] = c at hg
    have hget : s[0] = c := hc
    clear hc
    have hb : (c.toNat : Int) < 256 := by have := c.toNat_lt; omega
    by_cases hlet : letB c = true
    · have hl2 := hlet
      unfold letB at hl2
      simp only [decide_eq_true_eq] at hl2
      obtain ⟨hl3, hl4⟩ := hl2
      have hl5 : decide ((c.toNat : Int) < 97) = false := by simp; omega
      have hl6 : decide ((122 : Int) < (c.toNat : Int)) = false := by simp; omega
      have HG := hid hg
      have HL := hid hlet
      have HI := hid hin
      clear hg hlet
      go_enter Try.func131, Try.ntmps131
      go_wp2_with (go_at_call 122; refine (l1In_any _ _ _ _).mono ?_; rintro e w' ⟨rfl, rfl⟩)
      clear hget hl5 hl6 hin
      go_loop [3] (fun i => ∃ k : Nat, k ≤ s.size ∧ i = .int .i64 k ∧ Hid (sgTo s.data.toList k)) (fun i => s.size - (intOf i).toNat)
      case atStart => exact ⟨0, Nat.zero_le _, rfl, fun j c hj => by omega⟩
      case round =>
        obtain ⟨k, hk, rfl, hok⟩ := hrel
        by_cases hlt : k < s.size
        · have hgk := get_list s k hlt
          generalize hc : s[k] = d at hgk
          have hget : s[k] = d := hc
          clear hc
          by_cases hd : (letB d || digB d) = true
          · have HY : Hid (sgTo s.data.toList (k + 1)) := sgTo_succ hok hgk hd
            clear hgk
            go_wp2_with (go_at_call 146; refine (l2Sign_any d _).mono ?_; rintro e w' ⟨rfl, rfl⟩)
            go_round
            case rel => exact ⟨k + 1, by omega, by go_num, HY⟩
            case measure => simp [intOf]; omega
          · have hd' : (letB d || digB d) = false := by simpa using hd
            have HN : Hid (nameB s.data.toList = false) := nameB_bad hgk hd'
            clear hgk hd
            go_wp2_with (go_at_call 146; refine (l2Sign_any d _).mono ?_; rintro e w' ⟨rfl, rfl⟩)
            go_ret
            exact ⟨ret_bool HN.out.symm, rfl⟩
        · have HY : Hid (nameB s.data.toList = true) := nameB_sg (by rw [size_list]; obtain rfl : k = s.size := (by omega); exact hok.out) HG.out HL.out (by rw [size_list]; exact HI.out)
          go_wp2
          go_ret
          exact ⟨ret_bool HY.out.symm, rfl⟩
    · have hlet' : letB c = false := by simpa using hlet
      have HN : Hid (nameB s.data.toList = false) := nameB_first hg hlet'
      clear hg hlet
      have hlt : c.toNat < 97 ∨ 122 < c.toNat := by
        unfold letB at hlet'; simp at hlet'; omega
      clear hlet'
      rcases hlt with h1 | h1
      · have hl5 : decide ((c.toNat : Int) < 97) = true := by simp; omega
        go_enter Try.func131, Try.ntmps131
        go_wp2_with (go_at_call 122; refine (l1In_any _ _ _ _).mono ?_; rintro e w' ⟨rfl, rfl⟩)
        go_ret
        exact ⟨ret_bool HN.out.symm, rfl⟩
      · have hl5 : decide ((c.toNat : Int) < 97) = false := by simp; omega
        have hl6 : decide ((122 : Int) < (c.toNat : Int)) = true := by simp; omega
        go_enter Try.func131, Try.ntmps131
        go_wp2_with (go_at_call 122; refine (l1In_any _ _ _ _).mono ?_; rintro e w' ⟨rfl, rfl⟩)
        go_ret
        exact ⟨ret_bool HN.out.symm, rfl⟩
  · have hin' : inB 1 8 s.size = false := by simpa using hin
    have HN : Hid (nameB s.data.toList = false) := nameB_long (by rw [size_list]; exact hin')
    clear hin
    go_enter Try.func131, Try.ntmps131
    go_wp2_with (go_at_call 122; refine (l1In_any _ _ _ _).mono ?_; rintro e w' ⟨rfl, rfl⟩)
    go_ret
    exact ⟨ret_bool HN.out.symm, rfl⟩
end Go.Proofs.Ytdnmkcalpfkfhaa
