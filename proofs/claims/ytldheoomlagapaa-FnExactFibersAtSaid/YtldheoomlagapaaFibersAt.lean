/- impl.FibersAt and spec.FibersAt walked. Conditions: none. -/
import Derived.Test.YtldheoomlagapaaRows
import Derived.Test.YtldheoomlagapaaFibAt
import Derived.Test.YtldheoomlagapaaIsNode
import Derived.Test.YtldheoomlagapaaOtherEnd
namespace Go.Proofs.Ytldheoomlagapaa
open Go.RowKit
variable {n c m d : Nat} {A A' : Option Addr} {xs : List ByteArray} {fs : List Fib}
/-- What the reference asks of fiber j. -/
def endsF (fs : List Fib) (v : Int) (j : Nat) : Bool := decide (0 ≤ otherF (fs.getD j ⟨0, 0, 0, 0⟩) v)
theorem ends_eq {v : Int} (hg : goodB xs fs = true) {j : Nat} (hj : j < fs.length) : endsF fs v j = touchesF fs v j := by
  obtain ⟨f, hf⟩ := get_of (k := j) rfl hj
  have hb := goodB_fibB hg (List.mem_of_getElem? hf)
  unfold endsF touchesF
  rw [getD_of hf]
  unfold fibB at hb
  simp at hb
  unfold otherF
  by_cases h1 : v = f.a
  · rw [if_pos h1]; simp [h1]; omega
  · rw [if_neg h1]
    by_cases h2 : v = f.b
    · rw [if_pos h2]; simp [h2]; omega
    · rw [if_neg h2]
      have e1 : (f.a == v) = false := by simp; omega
      have e2 : (f.b == v) = false := by simp; omega
      rw [e1, e2]; rfl
def faB (xs : List ByteArray) (fs : List Fib) (v : Int) : Bool := goodB xs fs && inB 0 ((xs.length : Int) - 1) v
def faI (xs : List ByteArray) (fs : List Fib) (v : Int) : List Int := if faB xs fs v then idsTo (touchesF fs v) fs.length else []
theorem faI_ends {v : Int} (hg : goodB xs fs = true) (h : faB xs fs v = true) : faI xs fs v = idsTo (endsF fs v) fs.length := by
  unfold faI; rw [if_pos h]; exact idsTo_congr (fun j hj => (ends_eq hg hj).symm)
theorem faI_len (v : Int) : (faI xs fs v).length ≤ fs.length := by unfold faI; split; exact idsTo_len _ _; exact Nat.zero_le _
theorem nodesB_one (x : Int) : nodesB n [x] = inB 0 ((n : Int) - 1) x := by simp [nodesB]
theorem sees_one (w : World) (x : Int) (t : TypeId) : Sees elInt (w.alloc (.cells #[.int .i64 x] t)) (w.heap.size + 1) (some ⟨w.heap.size, 0, none⟩) 1 [x] := by
  refine ⟨rfl, .inr ⟨_, _, rfl, Nat.lt_succ_self _, fun k y hy j u hu => ?_⟩⟩
  match k, hy with
  | 0, hy =>
    simp at hy; subst hy
    match j, hu with
    | 0, hu => simp [elInt] at hu; subst hu; simp [elInt]
set_option maxHeartbeats 1000000 in
set_option maxRecDepth 100000 in
theorem implFibersAt (x : Int) (w : World) (h : NetIs w A n c A' m d xs fs) :
    Calls Try.prog 27 #[.agg #[.slice A n c, .slice A' m d], .int .i64 x] w fun e w' => ∃ v, e = .returned (.tuple #[v, .bool (faB xs fs x)]) ∧ Owns elInt w' w.heap.size 3 v (faI xs fs x) ∧ Below w.heap.size w w' := by
  have hb0 := bl_alloc (Below.refl w.heap.size w) (.cells #[.slice A n c, .slice A' m d] 30)
  have hx0 : Blk (w.alloc (.cells #[.slice A n c, .slice A' m d] 30)) w.heap.size 30 #[.slice A n c, .slice A' m d] := Blk.new _ _ _
  have h0 := h.grow hb0
  have hlx := h.xlen
  have hlf := h.flen
  have hb1 := bl_alloc hb0 (.cells #[.int .i64 x] 3)
  have h1 := h.grow hb1
  have hx1 := hx0.alloc (.cells #[.int .i64 x] 3)
  have hs1 := sees_one (w.alloc (.cells #[.slice A n c, .slice A' m d] 30)) x 3
  have HK := hid ((isNode_any (c' := 1) _ h1 hs1 (by omega)).mono (R' := fun e w' => e = .returned (.bool (faB xs fs x)) ∧ Below ((w.alloc (.cells #[.slice A n c, .slice A' m d] 30)).alloc (.cells #[.int .i64 x] 3)).heap.size ((w.alloc (.cells #[.slice A n c, .slice A' m d] 30)).alloc (.cells #[.int .i64 x] 3)) w') (fun e w' hh => by rw [nodesB_one] at hh; unfold faB; rw [hlx]; exact hh))
  clear hs1
  simp at HK
  cases g : faB xs fs x
  · have H : Hid (faI xs fs x = []) := by unfold Hid faI; rw [g]; rfl
    clear hlx hlf
    go_enter Try.func27, Try.ntmps27
    go_wp2_with fail
    refine HK.out.mono ?_
    rintro e w2 ⟨rfl, hb2⟩
    rw [g]
    clear HK
    go_wp2_with fail
    go_ret2
    exact ⟨_, rfl, by rw [H.out]; exact World.ownsRow_nil _ _ _ _, bl_then hb1 (by simpa using hb2)⟩
  · have H : Hid (faI xs fs x = idsTo (touchesF fs x) m) := by unfold Hid faI; rw [g, ← hlf]; rfl
    clear hlx hlf
    go_enter Try.func27, Try.ntmps27
    go_wp2_with fail
    refine HK.out.mono ?_
    rintro e w2 ⟨rfl, hb2⟩
    rw [g]
    clear HK
    have hb2' := bl_then hb1 (by simpa using hb2)
    have hx2 := hx1.below (B := w.heap.size + 1) (hb2.mono (by simp)) (by omega)
    have q0 := hx2.cell 0
    have q1 := hx2.cell 1
    simp at q0 q1
    have h2 := h.grow hb2'
    clear hb2 hx0 hx1 hx2 h0 h1 hb0 hb1
    go_wp2_with fail
    refine (fibersAt_any x _ h2).mono ?_
    rintro e w3 ⟨v3, rfl, ho3, hb3⟩
    have HO := hid ho3
    clear ho3
    go_wp2_with fail
    go_ret2
    exact ⟨_, rfl, by rw [H.out]; exact HO.out.base hb2'.size, bl_then hb2' hb3⟩
set_option maxHeartbeats 1000000 in
set_option maxRecDepth 100000 in
theorem specFibersAt (x : Int) (w : World) (h : NetIs w A n c A' m d xs fs) :
    Calls Try.prog 26 #[.agg #[.slice A n c, .slice A' m d], .int .i64 x] w fun e w' => ∃ v, e = .returned (.tuple #[v, .bool (faB xs fs x)]) ∧ Owns elInt w' w.heap.size 3 v (faI xs fs x) ∧ Below w.heap.size w w' := by
  obtain ⟨i0, hi, hz0, hz1, hz2⟩ := info_parts int_info
  have hb0 := bl_alloc (Below.refl w.heap.size w) (.cells #[.slice A n c, .slice A' m d] 30)
  have hx0 : Blk (w.alloc (.cells #[.slice A n c, .slice A' m d] 30)) w.heap.size 30 #[.slice A n c, .slice A' m d] := Blk.new _ _ _
  have h0 := h.grow hb0
  have hlx := h.xlen
  have hlf := h.flen
  have hm := h.mle
  have hn := h.nle
  have hbe : Below (w.alloc (.cells #[.slice A n c, .slice A' m d] 30)).heap.size (w.alloc (.cells #[.slice A n c, .slice A' m d] 30)) ((w.alloc (.cells #[.slice A n c, .slice A' m d] 30)).alloc (.cells #[] 3)) := bl_alloc (Below.refl _ _) _
  have hoe : Hid (Owns elInt ((w.alloc (.cells #[.slice A n c, .slice A' m d] 30)).alloc (.cells #[] 3)) (w.heap.size + 1) 3 (.slice (some ⟨w.heap.size + 1, 0, none⟩) 0 0) []) :=
    Owns.of_blk (n := 0) (cap := 0) (cur := #[]) (by have := Blk.new (w.alloc (.cells #[.slice A n c, .slice A' m d] 30)) 3 #[]; simpa using this) (Nat.le_refl _) rfl (Nat.le_refl _) rfl (by decide) (Filled.zero _ _ _)
  have hsz0 : (w.alloc (.cells #[.slice A n c, .slice A' m d] 30)).heap.size = w.heap.size + 1 := by simp
  have h1 := h0.grow hbe
  cases g : goodB xs fs
  · have H : Hid (faB xs fs x = false ∧ faI xs fs x = []) := by unfold Hid faI faB; rw [g]; exact ⟨rfl, rfl⟩
    clear hlx hlf
    go_enter Try.func26, Try.ntmps26
    go_wp2_with fail
    refine (goodN _ h1).mono ?_
    rintro e w2 ⟨rfl, hb2⟩
    rw [g]
    have hoe2 := hid (hoe.out.below hb2)
    clear hoe
    go_wp2_with fail
    go_ret2
    exact ⟨_, by rw [H.out.1]; rfl, by rw [H.out.2]; exact hoe2.out.base (by omega), bl_then (bl_alloc hb0 _) hb2⟩
  · cases g2 : inB 0 ((n : Int) - 1) x
    · have H : Hid (faB xs fs x = false ∧ faI xs fs x = []) := by unfold Hid faI faB; rw [g, hlx, g2]; exact ⟨rfl, rfl⟩
      clear hlx hlf
      go_enter Try.func26, Try.ntmps26
      go_wp2_with fail
      refine (goodN _ h1).mono ?_
      rintro e w2 ⟨rfl, hb2⟩
      rw [g]
      have hoe2 := hid (hoe.out.below hb2)
      have q0 := ((hx0.below hbe hx0.lt).below hb2 (by simp; omega)).cell 0
      simp at q0
      clear hoe
      go_wp2_with fail
      refine (l1In_any _ _ _ _).mono ?_
      rintro e w3 ⟨rfl, rfl⟩
      rw [g2]
      go_wp2_with fail
      go_ret2
      exact ⟨_, by rw [H.out.1]; rfl, by rw [H.out.2]; exact hoe2.out.base (by omega), bl_then (bl_alloc hb0 _) hb2⟩
    · have H : Hid (faB xs fs x = true ∧ faI xs fs x = idsTo (endsF fs x) m) := by
        have hh : faB xs fs x = true := by unfold faB; rw [g, hlx, g2]; rfl
        exact ⟨hh, by rw [faI_ends g hh, hlf]⟩
      clear hlx
      go_enter Try.func26, Try.ntmps26
      go_wp2_with fail
      refine (goodN _ h1).mono ?_
      rintro e w2 ⟨rfl, hb2⟩
      rw [g]
      have hoe2 : Hid (Owns elInt w2 (w.heap.size + 1) 3 (.slice (some ⟨w.heap.size + 1, 0, none⟩) 0 0) (idsTo (endsF fs x) 0)) := hid (hoe.out.below hb2)
      have q0 := ((hx0.below hbe hx0.lt).below hb2 (by simp; omega)).cell 0
      simp at q0
      clear hoe
      go_wp2_with fail
      refine (l1In_any _ _ _ _).mono ?_
      rintro e w3 ⟨rfl, rfl⟩
      rw [g2]
      have hbw := hbe.trans (hb2.mono (by simp))
      clear hbe hb2 q0 h1
      go_wp2_with fail
      generalize hw0 : w.alloc (.cells #[.slice A n c, .slice A' m d] 30) = w0 at *
      go_loopw [6, 7] (fun v i wr => ∃ k : Nat, k ≤ m ∧ i = .int .i64 k ∧ Hid (Owns elInt wr (w.heap.size + 1) 3 v (idsTo (endsF fs x) k)) ∧ Below w0.heap.size w0 wr) (fun _ i _ => m - (intOf i).toNat)
      case atStart => exact ⟨0, Nat.zero_le _, rfl, hoe2, hbw⟩
      case round =>
        clear hbw hoe2
        obtain ⟨k, hk, rfl, hown, hb⟩ := hrel
        have q0 := (hx0.below hb hx0.lt).cell 0
        have q1 := (hx0.below hb hx0.lt).cell 1
        simp at q0 q1
        by_cases hlt : k < m
        · obtain ⟨f, hfk⟩ := get_of (k := k) hlf hlt
          have hp : Hid (endsF fs x k = decide (0 ≤ otherF f x)) := by unfold Hid endsF; rw [getD_of hfk]
          have hwz := hb.size
          have HC := hid (l2Other_any (k : Int) x wr (h0.grow hb) (f := f) (by omega) (by omega) (by simpa using hfk))
          have hll := idsTo_len (endsF fs x) k
          clear hfk
          go_wp2_with fail
          refine HC.out.mono ?_
          rintro e w3 ⟨rfl, hb3⟩
          clear HC
          have hb4 := bl_then hb hb3
          have hoF : Hid (Owns elInt _ _ _ _ _) := hown.out.below hb3
          clear hown q0 q1
          have hx3 := hb4.size
          cases g1 : decide (0 ≤ otherF f x)
          · have HN : Hid (idsTo (endsF fs x) (k + 1) = idsTo (endsF fs x) k) := idsTo_no (hp.out.trans g1)
            have HO := hoF
            rw [← HN.out] at HO
            clear hp hoF
            go_wp2
            exact ⟨⟨k + 1, by omega, by go_num, HO, hb4⟩, by simp [intOf]; omega⟩
          · have HN : Hid (idsTo (endsF fs x) (k + 1) = idsTo (endsF fs x) k ++ [(k : Int)]) := idsTo_yes (hp.out.trans g1)
            have hbG := bl_alloc hb4 (.cells #[.int .i64 k] 3)
            have hoG : Hid (Owns elInt _ _ _ _ _) := hoF.out.below (bl_alloc (Below.refl _ _) (.cells #[.int .i64 k] 3))
            clear hp hoF
            go_wp2_with (first
            | (at_builtin; refine wpList_append_own _ rfl _ _ 40 rfl (w.heap.size + 1) 3 i0 (.int .i64 0) 1 8 Try.underlying40 hi hz0 hz1 hz2 rfl (by decide) _ (idsTo (endsF fs x) k).length ((idsTo (endsF fs x) k).flatMap elInt.cells) rfl hoG.out ⟨_, 0, none⟩ 1 1 [.int .i64 k] rfl rfl (one_new _ _ _ (by simp)) (fun u hu => by simp at hu; subst hu; rfl) (by unfold maxLen; omega) (by omega) (by simp; omega) ?_)
            | go_in)
            intro v' w1 hown' hgrow _
            have HO : Hid (Owns elInt w1 (w.heap.size + 1) 3 v' (idsTo (endsF fs x) (k + 1))) := by unfold Hid; rw [HN.out]; exact Owns.appended hown'
            have hbN := bl_grown hbG hgrow (fun g hg => by have := (hoG.out.lies g hg).1; omega)
            clear hown' hgrow hoG hbG
            go_wp2
            go_roundw
            case rel => exact ⟨k + 1, by omega, by go_num, HO, hbN⟩
            case measure => simp [intOf]; omega
        · have hkm : k = m := by omega
          rw [hkm] at hown
          clear hlt
          go_wp2
          go_ret2
          exact ⟨_, by rw [H.out.1]; rfl, by rw [H.out.2]; exact hown.out.base (by omega), hb0.trans (hb.mono (by omega))⟩
end Go.Proofs.Ytldheoomlagapaa
