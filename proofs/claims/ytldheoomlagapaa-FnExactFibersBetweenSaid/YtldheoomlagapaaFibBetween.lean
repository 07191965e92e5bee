/- FibersBetween of the program and of the reference, walked. Conditions: none. -/
import Derived.Test.YtldheoomlagapaaRows
import Derived.Test.YtldheoomlagapaaIntL
import Derived.Test.YtldheoomlagapaaNetIs
namespace Go.Proofs.Ytldheoomlagapaa
open Go.RowKit
variable {n c m d : Nat} {A A' : Option Addr} {xs : List ByteArray} {fs : List Fib}
/-- Fiber j has one end alone on the side. -/
def crossF (fs : List Fib) (l : List Int) (j : Nat) : Bool := !(hasB l (fs.getD j ⟨0, 0, 0, 0⟩).a == hasB l (fs.getD j ⟨0, 0, 0, 0⟩).b)
def fbB (xs : List ByteArray) (fs : List Fib) (l : List Int) : Bool := goodB xs fs && risB 0 ((xs.length : Int) - 1) l
def fbI (xs : List ByteArray) (fs : List Fib) (l : List Int) : List Int := if fbB xs fs l then idsTo (crossF fs l) fs.length else []
theorem fbI_len (l : List Int) : (fbI xs fs l).length ≤ fs.length := by unfold fbI; split; exact idsTo_len _ _; exact Nat.zero_le _
section
variable {B k c' : Nat} {V : Option Addr} {l : List Int}
set_option maxHeartbeats 1000000 in
set_option maxRecDepth 100000 in
theorem implFibersBetween (w : World) (h : NetIs w A n c A' m d xs fs) (hv : Sees elInt w B V k l) (hkb : k ≤ 1048576) :
    Calls Try.prog 52 #[.agg #[.slice A n c, .slice A' m d], .slice V k c'] w fun e w' => ∃ v, e = .returned (.tuple #[v, .bool (fbB xs fs l)]) ∧ Owns elInt w' w.heap.size 3 v (fbI xs fs l) ∧ Below w.heap.size w w' := by
  obtain ⟨i0, hi, hz0, hz1, hz2⟩ := info_parts int_info
  have hb0 := bl_alloc (Below.refl w.heap.size w) (.cells #[.slice A n c, .slice A' m d] 30)
  have hx0 : Blk (w.alloc (.cells #[.slice A n c, .slice A' m d] 30)) w.heap.size 30 #[.slice A n c, .slice A' m d] := Blk.new _ _ _
  have h0 := h.grow hb0
  have hlx := h.xlen
  have hlf := h.flen
  have hm := h.mle
  have hn := h.nle
  have hv0 := hid (hv.grow hb0)
  have hsz0 : (w.alloc (.cells #[.slice A n c, .slice A' m d] 30)).heap.size = w.heap.size + 1 := by simp
  clear hv
  cases g : goodB xs fs
  · have H : Hid (fbB xs fs l = false ∧ fbI xs fs l = []) := by unfold Hid fbI fbB; rw [g]; exact ⟨rfl, rfl⟩
    clear hlx hlf
    go_enter Try.func52, Try.ntmps52
    go_wp2_with fail
    refine (validN _ h0).mono ?_
    rintro e w2 ⟨rfl, hb2⟩
    rw [g]
    go_wp2_with fail
    go_ret2
    exact ⟨_, by rw [H.out.1]; rfl, by rw [H.out.2]; exact World.ownsRow_nil _ _ _ _, bl_then hb0 hb2⟩
  · cases g2 : risB 0 ((n : Int) - 1) l
    · have H : Hid (fbB xs fs l = false ∧ fbI xs fs l = []) := by unfold Hid fbI fbB; rw [g, hlx, g2]; exact ⟨rfl, rfl⟩
      clear hlx hlf
      go_enter Try.func52, Try.ntmps52
      go_wp2_with fail
      refine (validN _ h0).mono ?_
      rintro e w2 ⟨rfl, hb2⟩
      rw [g]
      have q0 := (hx0.below hb2 (by simp)).cell 0
      simp at q0
      go_wp2_with fail
      refine (isSet_any n _ (hv0.out.grow hb2) hkb hn).mono ?_
      rintro e w3 ⟨rfl, rfl⟩
      rw [g2]
      go_wp2_with fail
      go_ret2
      exact ⟨_, by rw [H.out.1]; rfl, by rw [H.out.2]; exact World.ownsRow_nil _ _ _ _, bl_then hb0 hb2⟩
    · have H : Hid (fbB xs fs l = true ∧ fbI xs fs l = idsTo (crossF fs l) m) := by
        have hh : fbB xs fs l = true := by unfold fbB; rw [g, hlx, g2]; rfl
        exact ⟨hh, by unfold fbI; rw [if_pos hh, hlf]⟩
      clear hlx
      go_enter Try.func52, Try.ntmps52
      go_wp2_with fail
      refine (validN _ h0).mono ?_
      rintro e w2 ⟨rfl, hb2⟩
      rw [g]
      have q0 := (hx0.below hb2 (by simp)).cell 0
      have q1 := (hx0.below hb2 (by simp)).cell 1
      simp at q0 q1
      go_wp2_with fail
      refine (isSet_any n _ (hv0.out.grow hb2) hkb hn).mono ?_
      rintro e w3 ⟨rfl, rfl⟩
      rw [g2]
      have q2 := ((hx0.below hb2 (by simp)).alloc (.cells #[] 3)).cell 1
      simp at q2
      go_wp2_with fail
      have hbw := bl_alloc hb2 (.cells #[] 3)
      have hzw : w.heap.size + 1 ≤ w2.heap.size := by have := hb2.size; omega
      have hoe : Hid (Owns elInt (w2.alloc (.cells #[] 3)) (w.heap.size + 1) 3 (.slice (some ⟨w2.heap.size, 0, none⟩) 0 0) (idsTo (crossF fs l) 0)) :=
        Owns.of_blk (n := 0) (cap := 0) (cur := #[]) (Blk.new w2 3 #[]) hzw rfl (Nat.le_refl _) rfl (by decide) (Filled.zero _ _ _)
      clear hb2 q0 q1 q2
      generalize hw0 : w.alloc (.cells #[.slice A n c, .slice A' m d] 30) = w0 at *
      go_loopw [6, 24] (fun v i wr => ∃ k : Nat, k ≤ m ∧ i = .int .i64 k ∧ Hid (Owns elInt wr (w.heap.size + 1) 3 v (idsTo (crossF fs l) k)) ∧ Below w0.heap.size w0 wr) (fun _ i _ => m - (intOf i).toNat)
      case atStart => exact ⟨0, Nat.zero_le _, rfl, hoe, hbw⟩
      case round =>
        clear hbw hoe
        obtain ⟨k, hk, rfl, hown, hb⟩ := hrel
        by_cases hlt : k < m
        · obtain ⟨b, o, rfl, _, hc⟩ := h0.fibs.at_ hlt
          obtain ⟨f, hfk⟩ := get_of (k := k) hlf hlt
          have f0 := bl_cell hb (hc k f hfk 0 _ rfl)
          have f1 := bl_cell hb (hc k f hfk 1 _ rfl)
          have f2 := bl_cell hb (hc k f hfk 2 _ rfl)
          have f3 := bl_cell hb (hc k f hfk 3 _ rfl)
          simp only [elFib, Nat.add_zero] at f0 f1 f2 f3
          have hp : Hid (crossF fs l k = (!(hasB l f.a == hasB l f.b))) := by unfold Hid crossF; rw [getD_of hfk]
          have hbF := bl_alloc hb (.cells #[.int .i64 f.a, .int .i64 f.b, .int .i64 f.len, .int .i64 f.risk] 60)
          have hwz := hbF.size
          have hbF1 := bl_alloc (Below.refl wr.heap.size wr) (.cells #[.int .i64 f.a, .int .i64 f.b, .int .i64 f.len, .int .i64 f.risk] 60)
          have hoF : Hid (Owns elInt _ _ _ _ _) := hown.out.below hbF1
          have hvF := hid ((hv0.out.grow hb).grow hbF1)
          have T0 : ∀ w', Cls (wr.alloc (.cells #[.int .i64 f.a, .int .i64 f.b, .int .i64 f.len, .int .i64 f.risk] 60)) w' → w'.cell? ⟨wr.heap.size, 0, none⟩ = some (.int .i64 f.a) := fun _ h => h.cell (by go_simp)
          have T1 : ∀ w', Cls (wr.alloc (.cells #[.int .i64 f.a, .int .i64 f.b, .int .i64 f.len, .int .i64 f.risk] 60)) w' → w'.cell? ⟨wr.heap.size, 1, none⟩ = some (.int .i64 f.b) := fun _ h => h.cell (by go_simp)
          have hll := idsTo_len (crossF fs l) k
          clear hc hfk hown hb hbF1
          go_wp2
          generalize hwF : wr.alloc (.cells #[.int .i64 f.a, .int .i64 f.b, .int .i64 f.len, .int .i64 f.risk] 60) = wF at *
          refine region_cls (by kernel_rfl) (by kernel_rfl) ?_
          repeat (first
            | ((with_reducible refine quiet_pos ?_ (fun K hK => ?_))
               · rfl
               apply Exists.intro
               refine ⟨fun w' hw' => ?_, ?_⟩
               · go_simp
                 first
                   | with_reducible rfl
                   | (go_at_call 87; exact hw'.same (containsI_any _ _ (hvF.out.grow hw') (by simp only [maxLen]; omega)))
               simp only [Act.put, List.setIfInBounds_toArray, List.set_cons_zero, List.set_cons_succ]
               refine hK _ ?_; clear hK K)
            | ((with_reducible refine quiet_neg ?_ (fun K hK => ?_))
               · rfl
               simp only [Act.put, List.setIfInBounds_toArray, List.set_cons_zero, List.set_cons_succ]
               refine hK _ ?_; clear hK K))
          with_reducible refine wpQuiet_nil ?_
          intro wz hwz'
          have hbZ := bl_then hbF hwz'
          have hoZ : Hid (Owns elInt _ _ _ _ _) := hoF.out.below hwz'
          have hzz := hwz'.size
          clear hoF hbF T0 T1 hvF
          cases g3 : (!(hasB l f.a == hasB l f.b))
          · have HN : Hid (idsTo (crossF fs l) (k + 1) = idsTo (crossF fs l) k) := idsTo_no (hp.out.trans g3)
            have HO := hoZ
            rw [← HN.out] at HO
            clear hp hoZ
            go_wp2
            exact ⟨⟨k + 1, by omega, by go_num, HO, hbZ⟩, by simp [intOf]; omega⟩
          · have HN : Hid (idsTo (crossF fs l) (k + 1) = idsTo (crossF fs l) k ++ [(k : Int)]) := idsTo_yes (hp.out.trans g3)
            have hbG := bl_alloc hbZ (.cells #[.int .i64 k] 3)
            have hoG : Hid (Owns elInt _ _ _ _ _) := hoZ.out.below (bl_alloc (Below.refl _ _) (.cells #[.int .i64 k] 3))
            clear hp hoZ
            go_wp2_with (first
              | (at_builtin; refine wpList_append_own _ rfl _ _ 40 rfl (w.heap.size + 1) 3 i0 (.int .i64 0) 1 8 Try.underlying40 hi hz0 hz1 hz2 rfl (by decide) _ (idsTo (crossF fs l) k).length ((idsTo (crossF fs l) k).flatMap elInt.cells) rfl hoG.out ⟨_, 0, none⟩ 1 1 [.int .i64 k] rfl rfl (one_new _ _ _ (by simp)) (fun u hu => by simp at hu; subst hu; rfl) (by unfold maxLen; omega) (by omega) (by simp; omega) ?_)
              | go_in)
            intro v' w1 hown' hgrow _
            have HO : Hid (Owns elInt w1 (w.heap.size + 1) 3 v' (idsTo (crossF fs l) (k + 1))) := by unfold Hid; rw [HN.out]; exact Owns.appended hown'
            have hbN := bl_grown hbG hgrow (fun g hg => by have := (hoG.out.lies g hg).1; omega)
            clear hown' hgrow hoG hbG
            go_wp2
            go_roundw
            case rel => exact ⟨k + 1, by omega, by go_num, HO, hbN⟩
            case measure => simp [intOf]; omega
        · have hkm : k = m := by omega
          rw [hkm] at hown
          clear hlt
          go_wp2
          go_ret2
          exact ⟨_, by rw [H.out.1]; rfl, by rw [H.out.2]; exact hown.out.base (by omega), hb0.trans (hb.mono (by omega))⟩
set_option maxHeartbeats 1000000 in
set_option maxRecDepth 100000 in
theorem specFibersBetween (w : World) (h : NetIs w A n c A' m d xs fs) (hv : Sees elInt w B V k l) (hkb : k ≤ 1048576) :
    Calls Try.prog 51 #[.agg #[.slice A n c, .slice A' m d], .slice V k c'] w fun e w' => ∃ v, e = .returned (.tuple #[v, .bool (fbB xs fs l)]) ∧ Owns elInt w' w.heap.size 3 v (fbI xs fs l) ∧ Below w.heap.size w w' := by
  obtain ⟨i0, hi, hz0, hz1, hz2⟩ := info_parts int_info
  have hb0 := bl_alloc (Below.refl w.heap.size w) (.cells #[.slice A n c, .slice A' m d] 30)
  have hx0 : Blk (w.alloc (.cells #[.slice A n c, .slice A' m d] 30)) w.heap.size 30 #[.slice A n c, .slice A' m d] := Blk.new _ _ _
  have h0 := h.grow hb0
  have hlx := h.xlen
  have hlf := h.flen
  have hm := h.mle
  have hn := h.nle
  have hbe : Below (w.alloc (.cells #[.slice A n c, .slice A' m d] 30)).heap.size (w.alloc (.cells #[.slice A n c, .slice A' m d] 30)) ((w.alloc (.cells #[.slice A n c, .slice A' m d] 30)).alloc (.cells #[] 3)) := bl_alloc (Below.refl _ _) _
  have hoe : Hid (Owns elInt ((w.alloc (.cells #[.slice A n c, .slice A' m d] 30)).alloc (.cells #[] 3)) (w.heap.size + 1) 3 (.slice (some ⟨w.heap.size + 1, 0, none⟩) 0 0) []) :=
    Owns.of_blk (n := 0) (cap := 0) (cur := #[]) (by have := Blk.new (w.alloc (.cells #[.slice A n c, .slice A' m d] 30)) 3 #[]; simpa using this) (Nat.le_refl _) rfl (Nat.le_refl _) rfl (by decide) (Filled.zero _ _ _)
  have hsz0 : (w.alloc (.cells #[.slice A n c, .slice A' m d] 30)).heap.size = w.heap.size + 1 := by simp
  have h1 := h0.grow hbe
  have hv1 := hid ((hv.grow hb0).grow hbe)
  have hv0 := hid (hv.grow hb0)
  clear hv
  cases g : goodB xs fs
  · have H : Hid (fbB xs fs l = false ∧ fbI xs fs l = []) := by unfold Hid fbI fbB; rw [g]; exact ⟨rfl, rfl⟩
    clear hlx hlf
    go_enter Try.func51, Try.ntmps51
    go_wp2_with fail
    refine (goodN _ h1).mono ?_
    rintro e w2 ⟨rfl, hb2⟩
    rw [g]
    have hoe2 := hid (hoe.out.below hb2)
    clear hoe
    go_wp2_with fail
    go_ret2
    exact ⟨_, by rw [H.out.1]; rfl, by rw [H.out.2]; exact hoe2.out.base (by omega), bl_then (bl_alloc hb0 _) hb2⟩
  · cases g2 : risB 0 ((n : Int) - 1) l
    · have H : Hid (fbB xs fs l = false ∧ fbI xs fs l = []) := by unfold Hid fbI fbB; rw [g, hlx, g2]; exact ⟨rfl, rfl⟩
      clear hlx hlf
      go_enter Try.func51, Try.ntmps51
      go_wp2_with fail
      refine (goodN _ h1).mono ?_
      rintro e w2 ⟨rfl, hb2⟩
      rw [g]
      have q0 := ((hx0.below hbe hx0.lt).below hb2 (by simp; omega)).cell 0
      simp at q0
      go_wp2_with fail
      refine (l1Rising_any _ _ _ (hv1.out.grow hb2) hkb).mono ?_
      rintro e w3 ⟨rfl, hb3⟩
      rw [g2]
      have hoe2 := hid ((hoe.out.below hb2).below hb3)
      clear hoe
      go_wp2_with fail
      go_ret2
      exact ⟨_, by rw [H.out.1]; rfl, by rw [H.out.2]; exact hoe2.out.base (by omega), bl_then (bl_then (bl_alloc hb0 _) hb2) hb3⟩
    · have H : Hid (fbB xs fs l = true ∧ fbI xs fs l = idsTo (crossF fs l) m) := by
        have hh : fbB xs fs l = true := by unfold fbB; rw [g, hlx, g2]; rfl
        exact ⟨hh, by unfold fbI; rw [if_pos hh, hlf]⟩
      clear hlx
      go_enter Try.func51, Try.ntmps51
      go_wp2_with fail
      refine (goodN _ h1).mono ?_
      rintro e w2 ⟨rfl, hb2⟩
      rw [g]
      have q0 := ((hx0.below hbe hx0.lt).below hb2 (by simp; omega)).cell 0
      simp at q0
      go_wp2_with fail
      refine (l1Rising_any _ _ _ (hv1.out.grow hb2) hkb).mono ?_
      rintro e w3 ⟨rfl, hb3⟩
      rw [g2]
      have hoe2 : Hid (Owns elInt w3 (w.heap.size + 1) 3 (.slice (some ⟨w.heap.size + 1, 0, none⟩) 0 0) (idsTo (crossF fs l) 0)) := hid ((hoe.out.below hb2).below hb3)
      have hbw := hbe.trans ((bl_then hb2 hb3).mono (by simp))
      clear hbe hb2 hb3 q0 h1 hoe
      go_wp2_with fail
      generalize hw0 : w.alloc (.cells #[.slice A n c, .slice A' m d] 30) = w0 at *
      go_loopw [6, 7] (fun v i wr => ∃ k : Nat, k ≤ m ∧ i = .int .i64 k ∧ Hid (Owns elInt wr (w.heap.size + 1) 3 v (idsTo (crossF fs l) k)) ∧ Below w0.heap.size w0 wr) (fun _ i _ => m - (intOf i).toNat)
      case atStart => exact ⟨0, Nat.zero_le _, rfl, hoe2, hbw⟩
      case round =>
        clear hbw hoe2
        obtain ⟨k, hk, rfl, hown, hb⟩ := hrel
        have hxr := hx0.below hb hx0.lt
        have q1 := hxr.cell 1
        simp at q1
        by_cases hlt : k < m
        · obtain ⟨b, o, rfl, _, hc⟩ := h0.fibs.at_ hlt
          obtain ⟨f, hfk⟩ := get_of (k := k) hlf hlt
          have f0 := bl_cell hb (hc k f hfk 0 _ rfl)
          have f1 := bl_cell hb (hc k f hfk 1 _ rfl)
          simp only [elFib, Nat.add_zero] at f0 f1
          have T0 : ∀ w', Cls wr w' → w'.cell? ⟨b, o + k * 4, none⟩ = some (.int .i64 f.a) := fun _ h => h.cell f0
          have T1 : ∀ w', Cls wr w' → w'.cell? ⟨b, o + k * 4 + 1, none⟩ = some (.int .i64 f.b) := fun _ h => h.cell f1
          have Q1 : ∀ w', Cls wr w' → w'.cell? ⟨w.heap.size, 1, none⟩ = some (.slice (some ⟨b, o, none⟩) m d) := fun _ h => h.cell q1
          have iz : (k : Int) < (m : Int) := by omega
          have hp : Hid (crossF fs l k = (!(hasB l f.a == hasB l f.b))) := by unfold Hid crossF; rw [getD_of hfk]
          have hwz := hb.size
          have hvF := hid (hv0.out.grow hb)
          have hll := idsTo_len (crossF fs l) k
          clear hc hfk f0 f1 hxr
          go_wp2
          refine region_cls (by kernel_rfl) (by kernel_rfl) ?_
          repeat (first
            | ((with_reducible refine quiet_pos ?_ (fun K hK => ?_))
               · rfl
               apply Exists.intro
               refine ⟨fun w' hw' => ?_, ?_⟩
               · go_simp
                 first
                   | with_reducible rfl
                   | (go_at_call 84; exact hw'.same (l1Has_any _ _ (hvF.out.grow hw') (by simp only [maxLen]; omega)))
               simp only [Act.put, List.setIfInBounds_toArray, List.set_cons_zero, List.set_cons_succ]
               refine hK _ ?_; clear hK K)
            | ((with_reducible refine quiet_neg ?_ (fun K hK => ?_))
               · rfl
               simp only [Act.put, List.setIfInBounds_toArray, List.set_cons_zero, List.set_cons_succ]
               refine hK _ ?_; clear hK K))
          with_reducible refine wpQuiet_nil ?_
          intro wz hwz'
          have hbZ := bl_then hb hwz'
          have hoZ : Hid (Owns elInt _ _ _ _ _) := hown.out.below hwz'
          have hzz := hwz'.size
          clear hown T0 T1 Q1 q1 hvF hb
          cases g3 : (!(hasB l f.a == hasB l f.b))
          · have HN : Hid (idsTo (crossF fs l) (k + 1) = idsTo (crossF fs l) k) := idsTo_no (hp.out.trans g3)
            have HO := hoZ
            rw [← HN.out] at HO
            clear hp hoZ
            go_wp2
            exact ⟨⟨k + 1, by omega, by go_num, HO, hbZ⟩, by simp [intOf]; omega⟩
          · have HN : Hid (idsTo (crossF fs l) (k + 1) = idsTo (crossF fs l) k ++ [(k : Int)]) := idsTo_yes (hp.out.trans g3)
            have hbG := bl_alloc hbZ (.cells #[.int .i64 k] 3)
            have hoG : Hid (Owns elInt _ _ _ _ _) := hoZ.out.below (bl_alloc (Below.refl _ _) (.cells #[.int .i64 k] 3))
            clear hp hoZ
            go_wp2_with (first
              | (at_builtin; refine wpList_append_own _ rfl _ _ 40 rfl (w.heap.size + 1) 3 i0 (.int .i64 0) 1 8 Try.underlying40 hi hz0 hz1 hz2 rfl (by decide) _ (idsTo (crossF fs l) k).length ((idsTo (crossF fs l) k).flatMap elInt.cells) rfl hoG.out ⟨_, 0, none⟩ 1 1 [.int .i64 k] rfl rfl (one_new _ _ _ (by simp)) (fun u hu => by simp at hu; subst hu; rfl) (by unfold maxLen; omega) (by omega) (by simp; omega) ?_)
              | go_in)
            intro v' w1 hown' hgrow _
            have HO : Hid (Owns elInt w1 (w.heap.size + 1) 3 v' (idsTo (crossF fs l) (k + 1))) := by unfold Hid; rw [HN.out]; exact Owns.appended hown'
            have hbN := bl_grown hbG hgrow (fun g hg => by have := (hoG.out.lies g hg).1; omega)
            clear hown' hgrow hoG hbG
            go_wp2
            go_roundw
            case rel => exact ⟨k + 1, by omega, by go_num, HO, hbN⟩
            case measure => simp [intOf]; omega
        · have hkm : k = m := by omega
          rw [hkm] at hown
          clear hlt
          go_wp2
          go_ret2
          exact ⟨_, by rw [H.out.1]; rfl, by rw [H.out.2]; exact hown.out.base (by omega), hb0.trans (hb.mono (by omega))⟩
end
end Go.Proofs.Ytldheoomlagapaa
