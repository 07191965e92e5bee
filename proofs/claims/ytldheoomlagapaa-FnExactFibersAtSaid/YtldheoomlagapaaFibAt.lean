/- impl.fibersAt walked. Conditions: none. -/
import Derived.Test.YtldheoomlagapaaRows
import Derived.Test.YtldheoomlagapaaApp
import Derived.Test.YtldheoomlagapaaNetIs
namespace Go.Proofs.Ytldheoomlagapaa
open Go.RowKit
variable {n c m d : Nat} {A A' : Option Addr} {xs : List ByteArray} {fs : List Fib}
def touchesF (fs : List Fib) (v : Int) (j : Nat) : Bool := (fs.getD j ⟨0, 0, 0, 0⟩).a == v || (fs.getD j ⟨0, 0, 0, 0⟩).b == v
set_option maxHeartbeats 1000000 in
set_option maxRecDepth 100000 in
theorem fibersAt_any (x : Int) (w : World) (h : NetIs w A n c A' m d xs fs) :
    Calls Try.prog 76 #[.agg #[.slice A n c, .slice A' m d], .int .i64 x] w fun e w' => ∃ v, e = .returned v ∧ Owns elInt w' w.heap.size 3 v (idsTo (touchesF fs x) m) ∧ Below w.heap.size w w' := by
  obtain ⟨i0, hi, hz0, hz1, hz2⟩ := info_parts int_info
  have hb0 := bl_alloc (Below.refl w.heap.size w) (.cells #[.slice A n c, .slice A' m d] 30)
  have hx0 : Blk (w.alloc (.cells #[.slice A n c, .slice A' m d] 30)) w.heap.size 30 #[.slice A n c, .slice A' m d] := Blk.new _ _ _
  have h0 := h.grow hb0
  have q1 := hx0.cell 1
  simp at q1
  have hm := h.mle
  go_enter Try.func76, Try.ntmps76
  go_wp2
  have hbe : Below (w.alloc (.cells #[.slice A n c, .slice A' m d] 30)).heap.size (w.alloc (.cells #[.slice A n c, .slice A' m d] 30)) ((w.alloc (.cells #[.slice A n c, .slice A' m d] 30)).alloc (.cells #[] 3)) := bl_alloc (Below.refl _ _) _
  have hoe : Hid (Owns elInt ((w.alloc (.cells #[.slice A n c, .slice A' m d] 30)).alloc (.cells #[] 3)) (w.heap.size + 1) 3 (.slice (some ⟨w.heap.size + 1, 0, none⟩) 0 0) (idsTo (touchesF fs x) 0)) :=
    Owns.of_blk (n := 0) (cap := 0) (cur := #[]) (by have := Blk.new (w.alloc (.cells #[.slice A n c, .slice A' m d] 30)) 3 #[]; simpa using this) (Nat.le_refl _) rfl (Nat.le_refl _) rfl (by decide) (Filled.zero _ _ _)
  have hsz0 : (w.alloc (.cells #[.slice A n c, .slice A' m d] 30)).heap.size = w.heap.size + 1 := by simp
  generalize hw0 : w.alloc (.cells #[.slice A n c, .slice A' m d] 30) = w0 at *
  go_loopw [5, 12] (fun v i wr => ∃ k : Nat, k ≤ m ∧ i = .int .i64 k ∧ Hid (Owns elInt wr (w.heap.size + 1) 3 v (idsTo (touchesF fs x) k)) ∧ Below w0.heap.size w0 wr) (fun _ i _ => m - (intOf i).toNat)
  case atStart => exact ⟨0, Nat.zero_le _, rfl, hoe, hbe⟩
  case round =>
    clear hbe hoe
    obtain ⟨k, hk, rfl, hown, hb⟩ := hrel
    by_cases hlt : k < m
    · obtain ⟨b, o, rfl, _, hc⟩ := h0.fibs.at_ hlt
      obtain ⟨f, hfk⟩ := get_of (k := k) h0.flen hlt
      have f0 := bl_cell hb (hc k f hfk 0 _ rfl)
      have f1 := bl_cell hb (hc k f hfk 1 _ rfl)
      have f2 := bl_cell hb (hc k f hfk 2 _ rfl)
      have f3 := bl_cell hb (hc k f hfk 3 _ rfl)
      simp only [elFib, Nat.add_zero] at f0 f1 f2 f3
      clear hc
      have hp : Hid (touchesF fs x k = (f.a == x || f.b == x)) := by unfold Hid touchesF; rw [getD_of hfk]
      have hwz := hb.size
      have hbF := bl_alloc hb (.cells #[.int .i64 f.a, .int .i64 f.b, .int .i64 f.len, .int .i64 f.risk] 60)
      have hbG := bl_alloc hbF (.cells #[.int .i64 k] 3)
      have hoF : Hid (Owns elInt _ _ _ _ _) := hown.out.below (bl_alloc (Below.refl _ _) (.cells #[.int .i64 f.a, .int .i64 f.b, .int .i64 f.len, .int .i64 f.risk] 60))
      have hoG : Hid (Owns elInt _ _ _ _ _) := hoF.out.below (bl_alloc (Below.refl _ _) (.cells #[.int .i64 k] 3))
      have hll := idsTo_len (touchesF fs x) k
      clear hown hb
      by_cases hpp : touchesF fs x k = true
      · have HN : Hid (idsTo (touchesF fs x) (k + 1) = idsTo (touchesF fs x) k ++ [(k : Int)]) := idsTo_yes hpp
        rw [hp.out] at hpp
        clear hp hfk hoF hbF
        cases g1 : (f.a == x)
        · have g2 : (f.b == x) = true := by rw [g1] at hpp; simpa using hpp
          clear hpp
          go_wp2_with (first
            | (at_builtin; refine wpList_append_own _ rfl _ _ 40 rfl (w.heap.size + 1) 3 i0 (.int .i64 0) 1 8 Try.underlying40 hi hz0 hz1 hz2 rfl (by decide) _ (idsTo (touchesF fs x) k).length ((idsTo (touchesF fs x) k).flatMap elInt.cells) rfl hoG.out ⟨_, 0, none⟩ 1 1 [.int .i64 k] rfl rfl (one_new _ _ _ (by simp)) (fun u hu => by simp at hu; subst hu; rfl) (by unfold maxLen; omega) (by omega) (by simp; omega) ?_)
            | go_in)
          intro v' w1 hown' hgrow _
          have HO : Hid (Owns elInt w1 (w.heap.size + 1) 3 v' (idsTo (touchesF fs x) (k + 1))) := by unfold Hid; rw [HN.out]; exact Owns.appended hown'
          have hbN := bl_grown hbG hgrow (fun g hg => by have := (hoG.out.lies g hg).1; omega)
          clear hown' hgrow hoG hbG
          go_wp2
          go_roundw
          case rel => exact ⟨k + 1, by omega, by go_num, HO, hbN⟩
          case measure => simp [intOf]; omega
        · clear hpp
          go_wp2_with (first
            | (at_builtin; refine wpList_append_own _ rfl _ _ 40 rfl (w.heap.size + 1) 3 i0 (.int .i64 0) 1 8 Try.underlying40 hi hz0 hz1 hz2 rfl (by decide) _ (idsTo (touchesF fs x) k).length ((idsTo (touchesF fs x) k).flatMap elInt.cells) rfl hoG.out ⟨_, 0, none⟩ 1 1 [.int .i64 k] rfl rfl (one_new _ _ _ (by simp)) (fun u hu => by simp at hu; subst hu; rfl) (by unfold maxLen; omega) (by omega) (by simp; omega) ?_)
            | go_in)
          intro v' w1 hown' hgrow _
          have HO : Hid (Owns elInt w1 (w.heap.size + 1) 3 v' (idsTo (touchesF fs x) (k + 1))) := by unfold Hid; rw [HN.out]; exact Owns.appended hown'
          have hbN := bl_grown hbG hgrow (fun g hg => by have := (hoG.out.lies g hg).1; omega)
          clear hown' hgrow hoG hbG
          go_wp2
          go_roundw
          case rel => exact ⟨k + 1, by omega, by go_num, HO, hbN⟩
          case measure => simp [intOf]; omega
      · have hpn : touchesF fs x k = false := by simpa using hpp
        have HN : Hid (idsTo (touchesF fs x) (k + 1) = idsTo (touchesF fs x) k) := idsTo_no hpn
        rw [hp.out] at hpn
        obtain ⟨g1, g2⟩ := Bool.or_eq_false_iff.1 hpn
        have HO := hoF
        rw [← HN.out] at HO
        clear hp hfk hoF hoG hbG hpn hpp
        go_wp2
        exact ⟨⟨k + 1, by omega, by go_num, HO, hbF⟩, by simp [intOf]; omega⟩
    · have hkm : k = m := by omega
      rw [hkm] at hown
      clear hlt
      go_wp2
      go_ret
      exact ⟨_, rfl, hown.out.base (by omega), hb0.trans (hb.mono (by omega))⟩
end Go.Proofs.Ytldheoomlagapaa
