/- spec.l2Groups: the reference's risk groups, walked. Conditions: none. -/
import Derived.Test.YtldheoomlagapaaRows
import Derived.Test.YtldheoomlagapaaGroups
namespace Go.Proofs.Ytldheoomlagapaa
open Go.RowKit
variable {n c m d : Nat} {A A' : Option Addr} {xs : List ByteArray} {fs : List Fib}
theorem groupL_row {t k : Nat} (h : (riskF fs k == ((t : Int) + 1)) = true) : groupL fs k = rkRow fs t := by
  have e : riskF fs k = (t : Int) + 1 := by simpa using h
  unfold groupL rkRow
  rw [e, if_neg (by simp; omega)]
theorem idsTo_ne {p : Nat → Bool} {k m : Nat} (hk : k < m) (h : p k = true) : idsTo p m ≠ [] := by
  intro e
  unfold idsTo at e
  have : (List.range m).filter p = [] := List.map_eq_nil_iff.1 e
  have h2 := List.filter_eq_nil_iff.1 this k (by simpa using hk)
  exact h2 h
set_option maxHeartbeats 2000000 in
set_option maxRecDepth 100000 in
theorem l2Groups_any (w : World) (h : NetIs w A n c A' m d xs fs) :
    Calls Try.prog 79 #[.agg #[.slice A n c, .slice A' m d]] w fun e w' => ∃ s ss, e = .returned (slV s) ∧ OwnsSS w' w.heap.size (slV s) ss (groupsL fs) ∧ Below w.heap.size w w' := by
  obtain ⟨j0, hj, hy0, hy1, hy2⟩ := info_parts sl_info
  have hb0 := bl_alloc (Below.refl w.heap.size w) (.cells #[.slice A n c, .slice A' m d] 30)
  have hx0 : Blk (w.alloc (.cells #[.slice A n c, .slice A' m d] 30)) w.heap.size 30 #[.slice A n c, .slice A' m d] := Blk.new _ _ _
  have h0 := h.grow hb0
  have hlf := h.flen
  have hm := h.mle
  have hsz0 : (w.alloc (.cells #[.slice A n c, .slice A' m d] 30)).heap.size = w.heap.size + 1 := by simp
  have hbe : Below (w.alloc (.cells #[.slice A n c, .slice A' m d] 30)).heap.size (w.alloc (.cells #[.slice A n c, .slice A' m d] 30)) ((w.alloc (.cells #[.slice A n c, .slice A' m d] 30)).alloc (.cells #[] 40)) := bl_alloc (Below.refl _ _) _
  have hoe : Hid (OwnsSS ((w.alloc (.cells #[.slice A n c, .slice A' m d] 30)).alloc (.cells #[] 40)) (w.heap.size + 1) (.slice (some ⟨w.heap.size + 1, 0, none⟩) 0 0) [] (rkTo fs 0)) :=
    ⟨Owns.of_blk (E := elSl) (n := 0) (cap := 0) (cur := #[]) (by have := Blk.new (w.alloc (.cells #[.slice A n c, .slice A' m d] 30)) 40 #[]; simpa using this) (Nat.le_refl _) rfl (Nat.le_refl _) rfl (by decide) (Filled.zero _ _ _), rfl, fun i s r h1 => by simp at h1, fun i j s t g _ h1 => by simp at h1⟩
  go_enter Try.func79, Try.ntmps79
  go_wp2_with fail
  generalize hw0 : w.alloc (.cells #[.slice A n c, .slice A' m d] 30) = w0 at *
  go_loopw [3, 4] (fun v i wr => ∃ (t : Nat) (ss : List Sl), t ≤ 9 ∧ i = .int .i64 ((t : Int) + 1) ∧ Hid (OwnsSS wr (w.heap.size + 1) v ss (rkTo fs t)) ∧ Below w0.heap.size w0 wr) (fun _ i _ => 10 - (intOf i).toNat)
  case atStart => exact ⟨0, [], Nat.zero_le _, rfl, hoe, hbe⟩
  case round =>
    clear hbe hoe
    obtain ⟨t, ss, ht, rfl, hss, hb⟩ := hrel
    have hwz := hb.size
    by_cases htl : t < 9
    · obtain ⟨wo, hwo⟩ : ∃ wo, wo = wr := ⟨_, rfl⟩
      subst hwo
      have e9 : decide ((t : Int) + 1 ≤ 9) = true := decide_eq_true (by omega)
      have hsl : ss.length ≤ 9 := by have := hss.out.2.1; have := rkTo_len fs t; omega
      go_wp2_with fail
      go_loopw [3, 5] (fun v i wr => ∃ k : Nat, k ≤ m ∧ i = .int .i64 k ∧ v = u3 ∧ Hid (idsTo (fun j => riskF fs j == ((t : Int) + 1)) k = []) ∧ wr = wo) (fun _ i _ => m - (intOf i).toNat)
      case atStart => exact ⟨0, Nat.zero_le _, rfl, rfl, idsTo_zero _, rfl⟩
      case round =>
        obtain ⟨k, hk, rfl, rfl, hno, rfl⟩ := hrel
        have q1 := (hx0.below hb hx0.lt).cell 1
        have q0 := (hx0.below hb hx0.lt).cell 0
        simp at q0 q1
        by_cases hlt : k < m
        · obtain ⟨b, o, rfl, _, hc⟩ := h0.fibs.at_ hlt
          obtain ⟨f, hfk⟩ := get_of (k := k) hlf hlt
          have f3 := bl_cell hb (hc k f hfk 3 _ rfl)
          simp only [elFib] at f3
          have hp : Hid ((riskF fs k == ((t : Int) + 1)) = (f.risk == ((t : Int) + 1))) := by unfold Hid; rw [riskF_of hfk]
          clear hc hfk
          cases g3 : (f.risk == ((t : Int) + 1))
          · have HN : Hid (idsTo (fun j => riskF fs j == ((t : Int) + 1)) (k + 1) = []) := by unfold Hid; rw [idsTo_no (hp.out.trans g3)]; exact hno.out
            clear hp hno
            go_wp2
            refine ⟨?_, by simp [intOf]; omega⟩
            first | exact ⟨k + 1, by omega, by go_num, rfl, HN, trivial⟩ | exact ⟨k + 1, by omega, by go_num, HN, rfl⟩ | exact ⟨k + 1, by omega, by go_num, rfl, HN, rfl⟩ | ((repeat apply Exists.intro); exact ⟨⟨k + 1, by omega, by go_num, rfl, HN, rfl⟩, rfl⟩)
          · have HR : Hid (groupL fs k = rkRow fs t) := groupL_row (hp.out.trans g3)
            have HT : Hid (rkTo fs (t + 1) = rkTo fs t ++ [rkRow fs t]) := rkTo_yes (by unfold rkRow; rw [hlf]; exact idsTo_ne hlt (hp.out.trans g3))
            have HC := hid (l2Group_any k wr (h0.grow hb) hlt)
            clear hp hno
            go_wp2_with fail
            refine HC.out.mono ?_
            rintro e w2 ⟨s2, rfl, ho2, hb2⟩
            have ho2 := hid ho2
            obtain ⟨Ag, Lg, cg⟩ := s2
            have hbG := bl_alloc (bl_then hb hb2) (.cells #[.slice Ag Lg cg] 40)
            have hq2 := bl_alloc hb2 (.cells #[.slice Ag Lg cg] 40)
            have hsG := hid (hss.out.below hq2)
            have hr2 : Hid (Owns elInt _ _ _ (slV ⟨Ag, Lg, cg⟩) _) := ho2.out.below (bl_alloc (Below.refl _ _) (.cells #[.slice Ag Lg cg] 40))
            have z2 := hb2.size
            unfold slV
            clear HC ho2 hb2 q0 q1 f3
            go_wp2_with (first
              | (at_builtin; refine wpList_append_own _ rfl _ _ 47 rfl (w.heap.size + 1) 40 j0 (.slice none 0 0) 1 24 Try.underlying47 hj hy0 hy1 hy2 rfl (by decide) _ ss.length (ss.flatMap elSl.cells) rfl hsG.out.1 ⟨_, 0, none⟩ 1 1 [.slice Ag Lg cg] rfl rfl (one_new _ _ _ (by simp)) (fun u hu => by simp at hu; subst hu; rfl) (by unfold maxLen; omega) (by omega) (by simp; omega) ?_)
              | go_in)
            intro v' w1 hown' hgrow _
            have HP : Hid (OwnsSS w1 (w.heap.size + 1) v' (ss ++ [⟨Ag, Lg, cg⟩]) (rkTo fs (t + 1))) := by
              unfold Hid; rw [HT.out]; exact hss.out.push (s0 := ⟨Ag, Lg, cg⟩) hq2 (by omega) (by have := hr2.out; rw [HR.out] at this; exact this) (Owns.appended (E := elSl) hown') hgrow
            have hbN := bl_grown hbG hgrow (fun g hg => by have := (hsG.out.1.lies g hg).1; omega)
            clear hown' hgrow hsG hbG hr2 hq2 hss
            go_wp2
            refine ⟨?_, by simp [intOf]; omega⟩
            first | exact ⟨t + 1, _, by omega, by go_num, HP, hbN⟩ | ((repeat apply Exists.intro); exact ⟨⟨t + 1, _, by omega, by go_num, HP, hbN⟩, rfl⟩)
        · have hkm : k = m := by omega
          have HT : Hid (rkTo fs (t + 1) = rkTo fs t) := rkTo_no (by unfold rkRow; rw [hlf, ← hkm]; exact hno.out)
          have HS := hss
          rw [← HT.out] at HS
          clear hno hlt hss
          go_wp2
          refine ⟨?_, by simp [intOf]; omega⟩
          first | exact ⟨t + 1, ss, by omega, by go_num, HS, hb⟩ | ((repeat apply Exists.intro); exact ⟨⟨t + 1, ss, by omega, by go_num, HS, hb⟩, rfl⟩)
    · have ht9 : t = 9 := by omega
      subst ht9
      have hs0 := hss
      rw [show rkTo fs 9 = rkTo fs 9 ++ zrTo fs 0 from by rw [zrTo_zero, List.append_nil]] at hs0
      clear hss
      go_wp2_with fail
      have hbs := hb
      obtain ⟨wo, hwo⟩ : ∃ wo, wo = wr := ⟨_, rfl⟩
      subst hwo
      go_loopw [3, 6] (fun v i wr => ∃ (k : Nat) (ss : List Sl), k ≤ m ∧ i = .int .i64 k ∧ Hid (OwnsSS wr (w.heap.size + 1) v ss (rkTo fs 9 ++ zrTo fs k)) ∧ Below w0.heap.size w0 wr) (fun _ i _ => m - (intOf i).toNat)
      case atStart => exact ⟨0, ss, Nat.zero_le _, rfl, hs0, hbs⟩
      case round =>
        clear hs0 hbs hb hwz
        obtain ⟨k, ss, hk, rfl, hss, hb⟩ := hrel
        have hwz := hb.size
        have q1 := (hx0.below hb hx0.lt).cell 1
        simp at q1
        by_cases hlt : k < m
        · obtain ⟨b, o, rfl, _, hc⟩ := h0.fibs.at_ hlt
          obtain ⟨f, hfk⟩ := get_of (k := k) hlf hlt
          have f3 := bl_cell hb (hc k f hfk 3 _ rfl)
          simp only [elFib] at f3
          have hp : Hid ((riskF fs k == 0) = (f.risk == 0)) := by unfold Hid; rw [riskF_of hfk]
          clear hc hfk
          cases g3 : (f.risk == 0)
          · have HN : Hid (zrTo fs (k + 1) = zrTo fs k) := zrTo_no (hp.out.trans g3)
            have HO := hss
            rw [← HN.out] at HO
            clear hp hss
            go_wp2
            refine ⟨?_, by simp [intOf]; omega⟩
            first | exact ⟨k + 1, ss, by omega, by go_num, HO, hb⟩ | ((repeat apply Exists.intro); exact ⟨⟨k + 1, ss, by omega, by go_num, HO, hb⟩, rfl⟩)
          · have HN : Hid (rkTo fs 9 ++ zrTo fs (k + 1) = (rkTo fs 9 ++ zrTo fs k) ++ [[(k : Int)]]) := by unfold Hid; rw [zrTo_yes (hp.out.trans g3), List.append_assoc]
            have hq1 := bl_alloc (Below.refl wr.heap.size wr) (.cells #[.int .i64 k] 3)
            have hq2 := bl_alloc hq1 (.cells #[.slice (some ⟨wr.heap.size, 0, none⟩) 1 1] 40)
            have hbG := bl_then hb hq2
            have hsG := hid (hss.out.below hq2)
            have hr2 : Hid (Owns elInt ((wr.alloc (.cells #[.int .i64 k] 3)).alloc (.cells #[.slice (some ⟨wr.heap.size, 0, none⟩) 1 1] 40)) wr.heap.size 3 (slV ⟨some ⟨wr.heap.size, 0, none⟩, 1, 1⟩) [(k : Int)]) :=
              (show Owns elInt (wr.alloc (.cells #[.int .i64 k] 3)) wr.heap.size 3 (.slice (some ⟨wr.heap.size, 0, none⟩) 1 1) [(k : Int)] from Owns.of_blk (n := 1) (cap := 1) (cur := #[.int .i64 k]) (Blk.new wr 3 #[.int .i64 k]) (Nat.le_refl _) rfl (Nat.le_refl _) rfl (by decide) (filled_int1 _)).below (bl_alloc (Below.refl _ _) _)
            have hsl : ss.length ≤ 9 + k := by have := hsG.out.2.1; have := rkTo_len fs 9; have := zrTo_len fs k; simp at *; omega
            clear hp hq1
            go_wp2_with (first
              | (at_builtin; refine wpList_append_own _ rfl _ _ 47 rfl (w.heap.size + 1) 40 j0 (.slice none 0 0) 1 24 Try.underlying47 hj hy0 hy1 hy2 rfl (by decide) _ ss.length (ss.flatMap elSl.cells) rfl hsG.out.1 ⟨_, 0, none⟩ 1 1 [.slice (some ⟨wr.heap.size, 0, none⟩) 1 1] rfl rfl (one_new _ _ _ (by simp)) (fun u hu => by simp at hu; subst hu; rfl) (by unfold maxLen; omega) (by omega) (by simp; omega) ?_)
              | go_in)
            intro v' w1 hown' hgrow _
            have HP : Hid (OwnsSS w1 (w.heap.size + 1) v' (ss ++ [⟨some ⟨wr.heap.size, 0, none⟩, 1, 1⟩]) (rkTo fs 9 ++ zrTo fs (k + 1))) := by
              unfold Hid; rw [HN.out]; exact hss.out.push (s0 := ⟨some ⟨wr.heap.size, 0, none⟩, 1, 1⟩) hq2 (by omega) hr2.out (Owns.appended (E := elSl) hown') hgrow
            have hbN := bl_grown hbG hgrow (fun g hg => by have := (hsG.out.1.lies g hg).1; omega)
            clear hown' hgrow hsG hbG hr2 hq2 hss
            go_wp2
            refine ⟨?_, by simp [intOf]; omega⟩
            first | exact ⟨k + 1, _, by omega, by go_num, HP, hbN⟩ | ((repeat apply Exists.intro); exact ⟨⟨k + 1, _, by omega, by go_num, HP, hbN⟩, rfl⟩)
        · have hkm : k = m := by omega
          rw [hkm] at hss
          have HG : Hid (groupsL fs = rkTo fs 9 ++ zrTo fs m) := by unfold Hid groupsL; rw [hlf]
          obtain ⟨Ao, co, rfl, _, _, _⟩ := hss.out.1.form
          clear hlt
          go_wp2
          go_ret
          exact ⟨⟨Ao, _, co⟩, ss, rfl, by rw [HG.out]; exact hss.out.base_ (by omega), hb0.trans (hb.mono (by omega))⟩
end Go.Proofs.Ytldheoomlagapaa
