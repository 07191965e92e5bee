/- RemoveFibers of both sides, walked. Conditions: none. -/
import Derived.Test.YtldheoomlagapaaClone
import Derived.Test.YtldheoomlagapaaIntL
import Derived.Test.YtldheoomlagapaaNetIs
import Derived.Test.YtldheoomlagapaaToF
import Derived.Deep.RegionLaw
namespace Go.Proofs.Ytldheoomlagapaa
open Go.RowKit
variable {n c m d : Nat} {A A' : Option Addr} {xs : List ByteArray} {fs : List Fib}
/-- Fiber j stays. -/
def keepF (l : List Int) (j : Nat) : Bool := !hasB l (j : Int)
/-- Those of the first k fibers that pass p. -/
def fibsTo (fs : List Fib) (p : Nat → Bool) (k : Nat) : List Fib := ((List.range k).filter p).map fun j => fs.getD j ⟨0, 0, 0, 0⟩
theorem fibsTo_zero (fs : List Fib) (p : Nat → Bool) : fibsTo fs p 0 = [] := rfl
theorem fibsTo_yes {fs : List Fib} {p : Nat → Bool} {k : Nat} {f : Fib} (h : p k = true) (hf : fs[k]? = some f) : fibsTo fs p (k + 1) = fibsTo fs p k ++ [f] := by
  simp [fibsTo, List.range_succ, List.filter_append, h, hf]
theorem fibsTo_no {fs : List Fib} {p : Nat → Bool} {k : Nat} (h : p k = false) : fibsTo fs p (k + 1) = fibsTo fs p k := by simp [fibsTo, List.range_succ, List.filter_append, h]
theorem fibsTo_len (fs : List Fib) (p : Nat → Bool) (k : Nat) : (fibsTo fs p k).length ≤ k := by
  unfold fibsTo
  rw [List.length_map]
  exact Nat.le_trans (List.length_filter_le _ _) (by simp)
def rfB (xs : List ByteArray) (fs : List Fib) (l : List Int) : Bool := goodB xs fs && risB 0 ((fs.length : Int) - 1) l
def rfX (xs : List ByteArray) (fs : List Fib) (l : List Int) : List ByteArray := if rfB xs fs l then xs else []
def rfF (xs : List ByteArray) (fs : List Fib) (l : List Int) : List Fib := if rfB xs fs l then fibsTo fs (keepF l) fs.length else []
def rfI (xs : List ByteArray) (fs : List Fib) (l : List Int) : List Int := if rfB xs fs l then idsTo (keepF l) fs.length else []
theorem rf_small (xs : List ByteArray) (fs : List Fib) (l : List Int) : (rfX xs fs l).length ≤ 8 ∧ (rfF xs fs l).length ≤ 14 ∧ (rfI xs fs l).length ≤ 14 := by
  unfold rfX rfF rfI
  cases g : rfB xs fs l
  · simp
  · unfold rfB at g
    rw [Bool.and_eq_true] at g
    have h := goodB_bd g.1
    have h1 := fibsTo_len fs (keepF l) fs.length
    have h2 := idsTo_len (keepF l) fs.length
    simp; omega
/-- A network that owns its rows, out of the ledger. -/
theorem Led.netOwn {w0 w : World} {L : List Thing} (h : Led w0 w L) (i j : Nat) {b0 : Nat} {A A' : Option Addr} {n c m d : Nat} {xs : List ByteArray} {fs : List Fib} (hi : L[i]? = some (tOwns elStr b0 9 (.slice A n c) xs)) (hj : L[j]? = some (tOwns elFib b0 60 (.slice A' m d) fs))
    (hn : n = xs.length) (hm : m = fs.length) : NetOwn w b0 A n c A' m d xs fs := by
  have h1 := h.own i hi
  have h2 := h.own j hj
  obtain ⟨_, _, e1, a1, a2, _⟩ := h1.form
  obtain ⟨_, _, e2, b1, b2, _⟩ := h2.form
  injection e1 with _ e3 e4
  injection e2 with _ e5 e6
  exact ⟨by omega, by omega, by omega, by omega, hn.symm, hm.symm, h1, h2⟩
section
variable {B k c' : Nat} {V : Option Addr} {l : List Int}
set_option maxHeartbeats 2000000 in
set_option maxRecDepth 100000 in
theorem implRemove (w : World) (h : NetIs w A n c A' m d xs fs) (hv : Sees elInt w B V k l) (hkb : k ≤ 1048576) :
    Calls Try.prog 41 #[.agg #[.slice A n c, .slice A' m d], .slice V k c'] w fun e w' => ∃ A1 c1 E1 d1 v, e = .returned (.tuple #[.agg #[.slice A1 (rfX xs fs l).length c1, .slice E1 (rfF xs fs l).length d1], v, .bool (rfB xs fs l)]) ∧
      NetOwn w' w.heap.size A1 (rfX xs fs l).length c1 E1 (rfF xs fs l).length d1 (rfX xs fs l) (rfF xs fs l) ∧ Owns elInt w' w.heap.size 3 v (rfI xs fs l) ∧ Below w.heap.size w w' := by
  have hS := ((Led.nil w).blk_ w.heap.size rfl 30 #[.slice A n c, .slice A' m d]).blk_ (w.heap.size + 1) (by simp) 30 #[.slice none 0 0, .slice none 0 0]
  have hlx := h.xlen
  have hlf := h.flen
  have hm := h.mle
  have hn := h.nle
  cases g : rfB xs fs l
  · have H : Hid (rfX xs fs l = [] ∧ rfF xs fs l = [] ∧ rfI xs fs l = []) := by unfold Hid rfX rfF rfI; rw [g]; exact ⟨rfl, rfl, rfl⟩
    rw [H.out.1, H.out.2.1, H.out.2.2]
    unfold rfB at g
    cases g1 : goodB xs fs
    · go_enter Try.func41, Try.ntmps41
      go_wp2_with fail
      refine (validN _ (h.grow hS.bl)).mono ?_
      rintro e w2 ⟨rfl, hb⟩
      replace hS := hS.step hb
      clear hb
      rw [g1]
      have q0 := hS.cell 0 0 rfl rfl
      have q1 := hS.cell 0 1 rfl rfl
      have z0 := hS.frozen 0 0 rfl
      have z1 := hS.frozen 0 1 rfl
      have hS2 := (hS.set 0 rfl 0 (.slice none 0 0)).set 0 rfl 1 (.slice none 0 0)
      go_wp2_with fail
      exact bodyPost_ret (v := .tuple #[.agg #[.slice none 0 0, .slice none 0 0], .slice none 0 0, .bool false]) (by simp [results, Try.results41, go_sem, q0, q1]) rfl
        ⟨none, 0, none, 0, .slice none 0 0, rfl, ⟨Nat.le_refl _, by decide, Nat.le_refl _, by decide, rfl, rfl, World.ownsRow_nil _ _ _ _, World.ownsRow_nil _ _ _ _⟩, World.ownsRow_nil _ _ _ _, hS2.bl⟩
    · have g2 : risB 0 ((m : Int) - 1) l = false := by rw [g1, hlf] at g; simpa using g
      go_enter Try.func41, Try.ntmps41
      go_wp2_with fail
      refine (validN _ (h.grow hS.bl)).mono ?_
      rintro e w2 ⟨rfl, hb⟩
      replace hS := hS.step hb
      clear hb
      rw [g1]
      have p1 := hS.cell 1 1 rfl rfl
      have q0 := hS.cell 0 0 rfl rfl
      have q1 := hS.cell 0 1 rfl rfl
      have z0 := hS.frozen 0 0 rfl
      have z1 := hS.frozen 0 1 rfl
      have hS2 := (hS.set 0 rfl 0 (.slice none 0 0)).set 0 rfl 1 (.slice none 0 0)
      go_wp2_with fail
      refine (isSet_any m _ (hv.grow hS.bl) hkb hm).mono ?_
      rintro e w3 ⟨rfl, rfl⟩
      rw [g2]
      go_wp2_with fail
      exact bodyPost_ret (v := .tuple #[.agg #[.slice none 0 0, .slice none 0 0], .slice none 0 0, .bool false]) (by simp [results, Try.results41, go_sem, q0, q1]) rfl
        ⟨none, 0, none, 0, .slice none 0 0, rfl, ⟨Nat.le_refl _, by decide, Nat.le_refl _, by decide, rfl, rfl, World.ownsRow_nil _ _ _ _, World.ownsRow_nil _ _ _ _⟩, World.ownsRow_nil _ _ _ _, hS2.bl⟩
  · have H : Hid (rfX xs fs l = xs ∧ rfF xs fs l = fibsTo fs (keepF l) m ∧ rfI xs fs l = idsTo (keepF l) m) := by unfold Hid rfX rfF rfI; rw [g, hlf]; exact ⟨rfl, rfl, rfl⟩
    rw [H.out.1, H.out.2.1, H.out.2.2]
    unfold rfB at g
    rw [Bool.and_eq_true, hlf] at g
    obtain ⟨g1, g2⟩ := g
    obtain ⟨i0, hi, hz0, hz1, hz2⟩ := info_parts int_info
    obtain ⟨j0, hj, hy0, hy1, hy2⟩ := info_parts fib_info
    go_enter Try.func41, Try.ntmps41
    go_wp2_with fail
    refine (validN _ (h.grow hS.bl)).mono ?_
    rintro e w2 ⟨rfl, hb⟩
    replace hS := hS.step hb
    clear hb
    rw [g1]
    have p1 := hS.cell 1 1 rfl rfl
    go_wp2_with fail
    refine (isSet_any m _ (hv.grow hS.bl) hkb hm).mono ?_
    rintro e w3 ⟨rfl, rfl⟩
    rw [g2]
    have p0 := hS.cell 1 0 rfl rfl
    go_wp2_with fail
    refine (cloneS_any _ (h.grow hS.bl).strs hn).mono ?_
    rintro e w4 ⟨v4, rfl, ho, hb⟩
    obtain ⟨A4, c4, rfl, _, _, _⟩ := ho.form
    rw [hlx] at ho ⊢
    replace hS := hS.owns_ (b0 := w.heap.size) hb ho (Nat.le_refl _) hS.bl.size
    clear ho hb p0 p1
    replace hS := hS.empty elInt 3 w4.heap.size rfl w.heap.size hS.bl.size
    replace hS := hS.blk_ (w4.heap.size + 1) (by simp) 30 #[.slice A4 n c4, .slice none 0 0]
    replace hS := hS.nilS elFib 60 w.heap.size
    have p1 := hS.cell 5 1 rfl rfl
    have HS : Hid (Led w (((w4.alloc (.cells #[] 3)).alloc (.cells #[.slice A4 n c4, .slice none 0 0] 30))) [tOwns elFib w.heap.size 60 (.slice none 0 0) (fibsTo fs (keepF l) 0), tBlk (w4.heap.size + 1) 30 #[.slice A4 n c4, .slice none 0 0], tOwns elInt w.heap.size 3 (.slice (some ⟨w4.heap.size, 0, none⟩) 0 0) (idsTo (keepF l) 0), tOwns elStr w.heap.size 9 (.slice A4 n c4) xs, tBlk (w.heap.size + 1) 30 #[.slice none 0 0, .slice none 0 0], tBlk w.heap.size 30 #[.slice A n c, .slice A' m d]]) := hS
    have HV := hid hv
    have HF := hid h
    clear hv h hS
    go_wp2_with fail
    go_loopw [8, 31] (fun v i wr => ∃ (k : Nat) (vF : Value), k ≤ m ∧ i = .int .i64 k ∧ Hid (Led w wr [tOwns elFib w.heap.size 60 vF (fibsTo fs (keepF l) k), tBlk (w4.heap.size + 1) 30 #[.slice A4 n c4, vF], tOwns elInt w.heap.size 3 v (idsTo (keepF l) k), tOwns elStr w.heap.size 9 (.slice A4 n c4) xs, tBlk (w.heap.size + 1) 30 #[.slice none 0 0, .slice none 0 0], tBlk w.heap.size 30 #[.slice A n c, .slice A' m d]])) (fun _ i _ => m - (intOf i).toNat)
    case atStart => exact ⟨0, _, Nat.zero_le _, rfl, HS⟩
    case round =>
      clear HS p1
      obtain ⟨k, vF, hk, rfl, HS⟩ := hrel
      obtain ⟨AF, cF, rfl, _⟩ := HS.out.form 0 rfl
      obtain ⟨AI, cI, rfl, _⟩ := HS.out.form 2 rfl
      by_cases hlt : k < m
      · obtain ⟨b, o, rfl, _, hc⟩ := HF.out.fibs.at_ hlt
        obtain ⟨f, hfk⟩ := get_of (k := k) hlf hlt
        have f0 := bl_cell HS.out.bl (hc k f hfk 0 _ rfl)
        have f1 := bl_cell HS.out.bl (hc k f hfk 1 _ rfl)
        have f2 := bl_cell HS.out.bl (hc k f hfk 2 _ rfl)
        have f3 := bl_cell HS.out.bl (hc k f hfk 3 _ rfl)
        simp only [elFib, Nat.add_zero] at f0 f1 f2 f3
        have hS1 := HS.out.blk_ wr.heap.size rfl 60 #[.int .i64 f.a, .int .i64 f.b, .int .i64 f.len, .int .i64 f.risk]
        have hll := fibsTo_len fs (keepF l) k
        have hli := idsTo_len (keepF l) k
        have hp : Hid (keepF l k = !hasB l (k : Int)) := rfl
        clear hc
        go_wp2_with fail
        refine (containsI_any (k : Int) _ (HV.out.grow hS1.bl) (by unfold maxLen; omega)).mono ?_
        rintro e w5 ⟨rfl, rfl⟩
        cases gk : hasB l (k : Int)
        · have HN1 : Hid (fibsTo fs (keepF l) (k + 1) = fibsTo fs (keepF l) k ++ [f]) := fibsTo_yes (by rw [hp.out, gk]; rfl) hfk
          have HN2 : Hid (idsTo (keepF l) (k + 1) = idsTo (keepF l) k ++ [(k : Int)]) := idsTo_yes (by rw [hp.out, gk]; rfl)
          have p1 := hS1.cell 2 1 rfl rfl
          have hS2 := hS1.blk_ (wr.heap.size + 1) (by simp) 60 #[.int .i64 f.a, .int .i64 f.b, .int .i64 f.len, .int .i64 f.risk]
          have HS2 := hid hS2
          clear hp hfk hS1 hS2 HS
          go_wp2_with (first
            | (at_builtin; refine wpList_append_led rfl _ _ 28 rfl HS2.out 2 rfl Try.underlying28 hj hy0 hy1 (by rw [hy2]; decide) rfl rfl rfl (show Sees elFib _ _ _ 1 [f] from sees_new elFib _ f _ _ (by simp)) (by omega) HS2.out.bl.size ?_)
            | go_in)
          intro A1 c1 w6 hS3
          have hS4 := hid (hS3.blk_ w6.heap.size rfl 3 #[.int .i64 k])
          have p2 := hS4.out.cell 4 1 rfl rfl
          clear HS2 hS3 f0 f1 f2 f3 p1
          go_wp2_with (first
            | (at_builtin; refine wpList_append_led rfl _ _ 40 rfl hS4.out 5 rfl Try.underlying40 hi hz0 hz1 (by rw [hz2]; decide) rfl rfl rfl (show Sees elInt _ _ _ 1 [(k : Int)] from sees_new elInt _ _ _ _ rfl) (by omega) hS4.out.bl.size ?_)
            | go_in)
          intro A2 c2 w7 hS5
          have p1 := hS5.cell 4 1 rfl rfl
          have z1 := hS5.frozen 4 1 rfl
          have hS6 := hid ((hS5.set 4 rfl 1 (.slice A1 ((fibsTo fs (keepF l) k).length + 1) c1)).drop 3)
          clear hS4 hS5 p2
          go_wp2
          go_roundw
          case rel => exact ⟨k + 1, _, by omega, by go_num, by rw [HN1.out, HN2.out]; exact hS6⟩
          case measure => simp [intOf]; omega
        · have HN1 : Hid (fibsTo fs (keepF l) (k + 1) = fibsTo fs (keepF l) k) := fibsTo_no (by rw [hp.out, gk]; rfl)
          have HN2 : Hid (idsTo (keepF l) (k + 1) = idsTo (keepF l) k) := idsTo_no (by rw [hp.out, gk]; rfl)
          have HS6 := hid (hS1.drop 1)
          clear hp hfk hS1 HS
          go_wp2
          exact ⟨⟨k + 1, _, by omega, by go_num, by rw [HN1.out, HN2.out]; exact HS6⟩, by simp [intOf]; omega⟩
      · have hkm : m = k := by omega
        subst hkm
        have p0 := HS.out.cell 1 0 rfl rfl
        have p1 := HS.out.cell 1 1 rfl rfl
        have q0 := HS.out.cell 4 0 rfl rfl
        have q1 := HS.out.cell 4 1 rfl rfl
        have z0 := HS.out.frozen 4 0 rfl
        have z1 := HS.out.frozen 4 1 rfl
        have HE := hid ((HS.out.set 4 rfl 0 (.slice A4 n c4)).set 4 rfl 1 (.slice AF (fibsTo fs (keepF l) m).length cF))
        clear hlt HS
        go_wp2
        exact bodyPost_ret (v := .tuple #[.agg #[.slice A4 n c4, .slice AF (fibsTo fs (keepF l) m).length cF], .slice AI (idsTo (keepF l) m).length cI, .bool true]) (by simp [results, Try.results41, go_sem, q0, q1]) rfl
          ⟨_, _, _, _, _, by rw [hlx], by rw [hlx]; exact HE.out.netOwn 3 0 rfl rfl hlx.symm rfl, HE.out.own 2 rfl, HE.out.bl⟩
/-- append onto a new row, of all that is seen. -/
theorem rf_reject (w : World) : NetOwn w w.heap.size none 0 0 none 0 0 [] [] := ⟨Nat.le_refl _, by decide, Nat.le_refl _, by decide, rfl, rfl, World.ownsRow_nil _ _ _ _, World.ownsRow_nil _ _ _ _⟩
set_option maxHeartbeats 2000000 in
set_option maxRecDepth 100000 in
theorem specRemove (w : World) (h : NetIs w A n c A' m d xs fs) (hv : Sees elInt w B V k l) (hkb : k ≤ 1048576) :
    Calls Try.prog 39 #[.agg #[.slice A n c, .slice A' m d], .slice V k c'] w fun e w' => ∃ A1 c1 E1 d1 v, e = .returned (.tuple #[.agg #[.slice A1 (rfX xs fs l).length c1, .slice E1 (rfF xs fs l).length d1], v, .bool (rfB xs fs l)]) ∧
      NetOwn w' w.heap.size A1 (rfX xs fs l).length c1 E1 (rfF xs fs l).length d1 (rfX xs fs l) (rfF xs fs l) ∧ Owns elInt w' w.heap.size 3 v (rfI xs fs l) ∧ Below w.heap.size w w' := by
  have hS := ((Led.nil w).blk_ w.heap.size rfl 30 #[.slice A n c, .slice A' m d]).blk_ (w.heap.size + 1) (by simp) 30 #[.slice none 0 0, .slice none 0 0]
  have hlx := h.xlen
  have hlf := h.flen
  have hm := h.mle
  have hn := h.nle
  cases g : rfB xs fs l
  · have H : Hid (rfX xs fs l = [] ∧ rfF xs fs l = [] ∧ rfI xs fs l = []) := by unfold Hid rfX rfF rfI; rw [g]; exact ⟨rfl, rfl, rfl⟩
    rw [H.out.1, H.out.2.1, H.out.2.2]
    unfold rfB at g
    cases g1 : goodB xs fs
    · go_enter Try.func39, Try.ntmps39
      go_wp2_with fail
      refine (goodN _ (h.grow hS.bl)).mono ?_
      rintro e w2 ⟨rfl, hb⟩
      replace hS := hS.step hb
      clear hb
      rw [g1]
      replace hS := hS.empty elInt 3 w2.heap.size rfl w.heap.size hS.bl.size
      have q0 := hS.cell 1 0 rfl rfl
      have q1 := hS.cell 1 1 rfl rfl
      have z0 := hS.frozen 1 0 rfl
      have z1 := hS.frozen 1 1 rfl
      have hS2 := (hS.set 1 rfl 0 (.slice none 0 0)).set 1 rfl 1 (.slice none 0 0)
      go_wp2_with fail
      exact bodyPost_ret (v := .tuple #[.agg #[.slice none 0 0, .slice none 0 0], .slice (some ⟨w2.heap.size, 0, none⟩) 0 0, .bool false]) (by simp [results, Try.results39, go_sem, q0, q1]) rfl
        ⟨none, 0, none, 0, _, rfl, ⟨Nat.le_refl _, by decide, Nat.le_refl _, by decide, rfl, rfl, World.ownsRow_nil _ _ _ _, World.ownsRow_nil _ _ _ _⟩, hS2.own 0 rfl, hS2.bl⟩
    · have g2 : risB 0 ((m : Int) - 1) l = false := by rw [g1, hlf] at g; simpa using g
      go_enter Try.func39, Try.ntmps39
      go_wp2_with fail
      refine (goodN _ (h.grow hS.bl)).mono ?_
      rintro e w2 ⟨rfl, hb⟩
      replace hS := hS.step hb
      clear hb
      rw [g1]
      have p1 := hS.cell 1 1 rfl rfl
      go_wp2_with fail
      refine (l1Rising_any 0 ((m : Int) - 1) _ (hv.grow hS.bl) hkb).mono ?_
      rintro e w3 ⟨rfl, hb⟩
      replace hS := hS.step hb
      clear hb
      rw [g2]
      replace hS := hS.empty elInt 3 w3.heap.size rfl w.heap.size hS.bl.size
      have q0 := hS.cell 1 0 rfl rfl
      have q1 := hS.cell 1 1 rfl rfl
      have z0 := hS.frozen 1 0 rfl
      have z1 := hS.frozen 1 1 rfl
      have hS2 := (hS.set 1 rfl 0 (.slice none 0 0)).set 1 rfl 1 (.slice none 0 0)
      clear p1
      go_wp2_with fail
      exact bodyPost_ret (v := .tuple #[.agg #[.slice none 0 0, .slice none 0 0], .slice (some ⟨w3.heap.size, 0, none⟩) 0 0, .bool false]) (by simp [results, Try.results39, go_sem, q0, q1]) rfl
        ⟨none, 0, none, 0, _, rfl, ⟨Nat.le_refl _, by decide, Nat.le_refl _, by decide, rfl, rfl, World.ownsRow_nil _ _ _ _, World.ownsRow_nil _ _ _ _⟩, hS2.own 0 rfl, hS2.bl⟩
  · have H : Hid (rfX xs fs l = xs ∧ rfF xs fs l = fibsTo fs (keepF l) m ∧ rfI xs fs l = idsTo (keepF l) m) := by unfold Hid rfX rfF rfI; rw [g, hlf]; exact ⟨rfl, rfl, rfl⟩
    rw [H.out.1, H.out.2.1, H.out.2.2]
    unfold rfB at g
    rw [Bool.and_eq_true, hlf] at g
    obtain ⟨g1, g2⟩ := g
    obtain ⟨i0, hi, hz0, hz1, hz2⟩ := info_parts int_info
    obtain ⟨j0, hj, hy0, hy1, hy2⟩ := info_parts fib_info
    obtain ⟨t0, ht, hx0, hx1, hx2⟩ := info_parts str_info
    go_enter Try.func39, Try.ntmps39
    go_wp2_with fail
    refine (goodN _ (h.grow hS.bl)).mono ?_
    rintro e w2 ⟨rfl, hb⟩
    replace hS := hS.step hb
    clear hb
    rw [g1]
    have p1 := hS.cell 1 1 rfl rfl
    go_wp2_with fail
    refine (l1Rising_any 0 ((m : Int) - 1) _ (hv.grow hS.bl) hkb).mono ?_
    rintro e w3 ⟨rfl, hb⟩
    replace hS := hS.step hb
    clear hb p1
    rw [g2]
    replace hS := hS.empty elStr 9 w3.heap.size rfl w.heap.size hS.bl.size
    have p0 := hS.cell 2 0 rfl rfl
    go_wp2_with (first
      | (at_builtin; refine wpList_append_led rfl _ _ 22 rfl hS 0 rfl Try.underlying22 ht hx0 hx1 (by rw [hx2]; decide) rfl rfl rfl (h.grow hS.bl).strs (by simp; omega) hS.bl.size ?_)
      | go_in)
    intro A4 c4 w4 hS4
    replace hS := ((hS4.blk_ w4.heap.size rfl 30 #[.slice A4 n c4, .slice none 0 0]).empty elInt 3 (w4.heap.size + 1) (by simp) w.heap.size (by have := hS4.bl.size; omega)).nilS elFib 60 w.heap.size
    have HS : Hid (Led w ((w4.alloc (.cells #[.slice A4 n c4, .slice none 0 0] 30)).alloc (.cells #[] 3)) [tOwns elFib w.heap.size 60 (.slice none 0 0) (fibsTo fs (keepF l) 0), tOwns elInt w.heap.size 3 (.slice (some ⟨w4.heap.size + 1, 0, none⟩) 0 0) (idsTo (keepF l) 0), tBlk w4.heap.size 30 #[.slice A4 n c4, .slice none 0 0], tOwns elStr w.heap.size 9 (.slice A4 n c4) xs, tBlk (w.heap.size + 1) 30 #[.slice none 0 0, .slice none 0 0], tBlk w.heap.size 30 #[.slice A n c, .slice A' m d]]) := hS
    have HV := hid hv
    have HF := hid h
    clear hv h hS hS4 p0
    go_wp2_with fail
    go_loopw [8, 9] (fun v i wr => ∃ (k : Nat) (vF : Value), k ≤ m ∧ i = .int .i64 k ∧ Hid (Led w wr [tOwns elFib w.heap.size 60 vF (fibsTo fs (keepF l) k), tOwns elInt w.heap.size 3 v (idsTo (keepF l) k), tBlk w4.heap.size 30 #[.slice A4 n c4, vF], tOwns elStr w.heap.size 9 (.slice A4 n c4) xs, tBlk (w.heap.size + 1) 30 #[.slice none 0 0, .slice none 0 0], tBlk w.heap.size 30 #[.slice A n c, .slice A' m d]])) (fun _ i _ => m - (intOf i).toNat)
    case atStart => exact ⟨0, _, Nat.zero_le _, rfl, HS⟩
    case round =>
      clear HS
      obtain ⟨k, vF, hk, rfl, HS⟩ := hrel
      obtain ⟨AF, cF, rfl, _⟩ := HS.out.form 0 rfl
      obtain ⟨AI, cI, rfl, _⟩ := HS.out.form 1 rfl
      have p1 := HS.out.cell 5 1 rfl rfl
      by_cases hlt : k < m
      · obtain ⟨b, o, rfl, _, hc⟩ := HF.out.fibs.at_ hlt
        obtain ⟨f, hfk⟩ := get_of (k := k) hlf hlt
        have f0 := bl_cell HS.out.bl (hc k f hfk 0 _ rfl)
        have f1 := bl_cell HS.out.bl (hc k f hfk 1 _ rfl)
        have f2 := bl_cell HS.out.bl (hc k f hfk 2 _ rfl)
        have f3 := bl_cell HS.out.bl (hc k f hfk 3 _ rfl)
        simp only [elFib, Nat.add_zero] at f0 f1 f2 f3
        have hll := fibsTo_len fs (keepF l) k
        have hli := idsTo_len (keepF l) k
        have iz : (k : Int) < (m : Int) := by omega
        have hp : Hid (keepF l k = !hasB l (k : Int)) := rfl
        clear hc
        go_wp2_with fail
        refine (l1Has_any (k : Int) _ (HV.out.grow HS.out.bl) (by unfold maxLen; omega)).mono ?_
        rintro e w5 ⟨rfl, rfl⟩
        cases gk : hasB l (k : Int)
        · have HN1 : Hid (fibsTo fs (keepF l) (k + 1) = fibsTo fs (keepF l) k ++ [f]) := fibsTo_yes (by rw [hp.out, gk]; rfl) hfk
          have HN2 : Hid (idsTo (keepF l) (k + 1) = idsTo (keepF l) k ++ [(k : Int)]) := idsTo_yes (by rw [hp.out, gk]; rfl)
          have p3 := HS.out.cell 2 1 rfl rfl
          have HS1 := hid (HS.out.blk_ wr.heap.size rfl 60 #[.int .i64 f.a, .int .i64 f.b, .int .i64 f.len, .int .i64 f.risk])
          have HS2 := hid (HS1.out.step (Cls.drew _))
          have p4 := HS1.out.cell 3 1 rfl rfl
          clear hp hfk
          go_wp2_with fail
          go_region_law (refine step_append_led rfl _ _ 28 rfl HS2.out 1 rfl Try.underlying28 hj hy0 hy1 (by rw [hy2]; decide) rfl rfl rfl (show Sees elFib _ _ _ 1 [f] from (sees_new elFib _ f _ _ rfl).keep (fun _ _ => rfl)) (by omega) HS2.out.bl.size ?_; intro A1 c1 w6 hS3; have p5 := hS3.cell 3 1 rfl rfl; have z5 := hS3.frozen 3 1 rfl)
          all_goals
            have hS4 := hid ((hS3.set 3 rfl 1 (.slice A1 ((fibsTo fs (keepF l) k).length + 1) c1)).drop 1)
            have hS5 := hid (hS4.out.blk_ w6.heap.size (by simp) 3 #[.int .i64 k])
            clear HS1 HS2 hS3 f0 f1 f2 f3 p1 p3 p4 p5 z5 HS
            go_wp2_with (first
              | (at_builtin; refine wpList_append_led rfl _ _ 40 rfl hS5.out 2 rfl Try.underlying40 hi hz0 hz1 (by rw [hz2]; decide) rfl rfl rfl (show Sees elInt _ _ _ 1 [(k : Int)] from sees_new elInt _ _ _ _ (by simp)) (by omega) hS5.out.bl.size ?_)
              | go_in)
            intro A2 c2 w7 hS6
            have hS7 := hid (hS6.drop 1)
            clear hS4 hS5 hS6
            go_wp2
            go_roundw
            case rel => exact ⟨k + 1, _, by omega, by go_num, by rw [HN1.out, HN2.out]; exact hS7⟩
            case measure => simp [intOf]; omega
        · have HN1 : Hid (fibsTo fs (keepF l) (k + 1) = fibsTo fs (keepF l) k) := fibsTo_no (by rw [hp.out, gk]; rfl)
          have HN2 : Hid (idsTo (keepF l) (k + 1) = idsTo (keepF l) k) := idsTo_no (by rw [hp.out, gk]; rfl)
          clear hp hfk
          go_wp2
          exact ⟨⟨k + 1, _, by omega, by go_num, by rw [HN1.out, HN2.out]; exact HS⟩, by simp [intOf]; omega⟩
      · have hkm : m = k := by omega
        subst hkm
        have p0 := HS.out.cell 2 0 rfl rfl
        have p2 := HS.out.cell 2 1 rfl rfl
        have q0 := HS.out.cell 4 0 rfl rfl
        have q1 := HS.out.cell 4 1 rfl rfl
        have z0 := HS.out.frozen 4 0 rfl
        have z1 := HS.out.frozen 4 1 rfl
        have HE := hid ((HS.out.set 4 rfl 0 (.slice A4 n c4)).set 4 rfl 1 (.slice AF (fibsTo fs (keepF l) m).length cF))
        clear hlt HS
        go_wp2
        exact bodyPost_ret (v := .tuple #[.agg #[.slice A4 n c4, .slice AF (fibsTo fs (keepF l) m).length cF], .slice AI (idsTo (keepF l) m).length cI, .bool true]) (by simp [results, Try.results39, go_sem, q0, q1]) rfl
          ⟨_, _, _, _, _, by rw [hlx], by rw [hlx]; exact HE.out.netOwn 3 0 rfl rfl hlx.symm rfl, HE.out.own 1 rfl, HE.out.bl⟩
end
end Go.Proofs.Ytldheoomlagapaa
