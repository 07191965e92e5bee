/- Lemmas and walks that the claim rests on, laid together. Conditions: none. -/
import Derived.Test.YtgoegldffjfmdaaZ113113e8df26
import Derived.Test.YtgoegldffjfmdaaZb38055219eae
import Derived.Test.YtgoegldffjfmdaaZ495155223ae4
/- MinimumCut, DisjointCount of the program, walked. Conditions: none. -/
namespace Go.Proofs.Ytgoegldffjfmdaa
open Go.RowKit
theorem nodesB_two (n : Nat) (x y : Int) : nodesB n [x, y] = (inB 0 ((n : Int) - 1) x && inB 0 ((n : Int) - 1) y) := by simp [nodesB]
section
variable {n c m d : Nat} {A A' : Option Addr} {xs : List ByteArray} {fs : List Fib}
set_option maxHeartbeats 2000000 in
set_option maxRecDepth 100000 in
theorem minCut1_any {B k cc gN gF gT f t : Nat} {G : Option Addr} {l : List Int} (w : World) (h : NetIs w A n c A' m d xs fs) (hN : Blk w gN 34 #[.slice A n c, .slice A' m d]) (hF : Blk w gF 3 #[.int .i64 (f : Int)]) (hT : Blk w gT 3 #[.int .i64 (t : Int)])
    (hs : Sees elInt w B G k l) (hk : k ≤ 1048576) (he : endsB n fs) (hf : f < n) (ht : t < n) :
    Calls Try.prog 132 #[.slice G k cc, .pointer (some ⟨gN, 0, none⟩), .pointer (some ⟨gF, 0, none⟩), .pointer (some ⟨gT, 0, none⟩)] w fun e w' => e = .returned (.bool (cutP fs n f t l)) ∧ Below w.heap.size w w' := by
  have q0 := hN.cell 0
  have q1 := hN.cell 1
  simp at q0 q1
  obtain ⟨y, hy⟩ : ∃ y, y = compL (goneF l) fs n := ⟨_, rfl⟩
  have HP : Hid (cutP fs n f t l = !(valL y f == valL y t)) := by rw [hy]; rfl
  rw [HP.out]
  have HF := hid hF
  have HT := hid hT
  have hlc : Hid (y.length = n) := by rw [hy]; exact compL_len
  have HY := hid hy
  clear hy
  have iF : (f : Int) < (n : Int) := by omega
  have iT : (t : Int) < (n : Int) := by omega
  go_enter Try.func132, Try.ntmps132
  go_wp2_with fail
  refine (components_any _ h hs hk he (by omega)).mono ?_
  rintro e w1 ⟨v, rfl, ho, hb⟩
  obtain ⟨g, cV, rfl⟩ := ho.splitg compL_len (show 0 < n by omega)
  have hS := (Led.nil w).owns hb ho
  have hf1 := HF.out.below hb HF.out.lt
  have ht1 := HT.out.below hb HT.out.lt
  have c0 := hf1.cell 0
  have c1 := ht1.cell 0
  simp at c0 c1
  rw [← HY.out] at hS
  have F0 : ∀ w', Cls w1 w' → w'.cell? ⟨gF, 0, none⟩ = some (.int .i64 (f : Int)) := fun _ h => h.cell c0
  have T0 : ∀ w', Cls w1 w' → w'.cell? ⟨gT, 0, none⟩ = some (.int .i64 (t : Int)) := fun _ h => h.cell c1
  have V0 : ∀ w', Cls w1 w' → w'.cell? ⟨g, f, none⟩ = some (.int .i64 (valL y f)) := fun _ h => h.cell (hS.int_at 0 rfl (j := f) (by rw [hlc.out]; omega))
  have V1 : ∀ w', Cls w1 w' → w'.cell? ⟨g, t, none⟩ = some (.int .i64 (valL y t)) := fun _ h => h.cell (hS.int_at 0 rfl (j := t) (by rw [hlc.out]; omega))
  clear ho hb c0 c1
  go_wp2_with fail
  refine region_cls (by kernel_rfl) (by kernel_rfl) ?_
  repeat (first
    | ((with_reducible refine quiet_pos ?_ (fun K hK => ?_))
       · rfl
       apply Exists.intro
       refine ⟨fun w' hw' => ?_, ?_⟩
       · go_simp
         with_reducible rfl
       simp only [Act.put, List.setIfInBounds_toArray, List.set_cons_zero, List.set_cons_succ]
       refine hK _ ?_; clear hK K)
    | ((with_reducible refine quiet_neg ?_ (fun K hK => ?_))
       · rfl
       simp only [Act.put, List.setIfInBounds_toArray, List.set_cons_zero, List.set_cons_succ]
       refine hK _ ?_; clear hK K))
  with_reducible refine wpQuiet_nil ?_
  intro wz hwz'
  have HZ := hid (hS.step hwz').bl
  clear hS F0 T0 V0 V1 hwz' q0 q1
  go_wp2
  go_ret
  exact ⟨rfl, HZ.out⟩
set_option maxHeartbeats 2000000 in
set_option maxRecDepth 100000 in
theorem implMinimumCut (f t : Int) (w : World) (h : NetIs w A n c A' m d xs fs) :
    Calls Try.prog 54 #[.agg #[.slice A n c, .slice A' m d], .int .i64 f, .int .i64 t] w fun e w' => ∃ v, e = .returned (.tuple #[v, .bool (mcB xs fs f t)]) ∧ Owns elInt w' w.heap.size 3 v (mcL xs fs f t) ∧ Below w.heap.size w w' := by
  have hS := ((((Led.nil w).blk_ w.heap.size rfl 34 #[.slice A n c, .slice A' m d]).blk_ (w.heap.size + 1) (by simp) 3 #[.int .i64 f]).blk_ (w.heap.size + 1 + 1) (by simp) 3 #[.int .i64 t]).blk_ (w.heap.size + 1 + 1 + 1) (by simp) 3 #[.int .i64 f, .int .i64 t]
  have hs2 : Sees elInt ((((w.alloc (.cells #[.slice A n c, .slice A' m d] 34)).alloc (.cells #[.int .i64 f] 3)).alloc (.cells #[.int .i64 t] 3)).alloc (.cells #[.int .i64 f, .int .i64 t] 3)) (w.heap.size + 1 + 1 + 1 + 1) (some ⟨w.heap.size + 1 + 1 + 1, 0, none⟩) 2 [f, t] := by
    refine ⟨rfl, .inr ⟨_, _, rfl, Nat.lt_succ_self _, fun k x hx j u hu => ?_⟩⟩
    have hj : j = 0 := by have := (List.getElem?_eq_some_iff.1 hu).1; simp [elInt] at this; omega
    subst hj
    have hu' : Value.int .i64 x = u := by simpa [elInt] using hu
    subst hu'
    rcases k with _ | _ | k
    · simp at hx; subst hx; exact hS.cell 0 0 rfl rfl
    · simp at hx; subst hx; exact hS.cell 0 1 rfl rfl
    · simp at hx
  have HB : Hid (mcB xs fs f t = ((goodB xs fs && nodesB n [f, t]) && !(f == t))) := by unfold Hid mcB; rw [nodesB_two, h.xlen, Bool.and_assoc (goodB xs fs)]
  cases g : (goodB xs fs && nodesB n [f, t])
  · have HF : Hid (mcB xs fs f t = false) := by unfold Hid; rw [HB.out, g]; rfl
    have H : Hid (mcL xs fs f t = []) := by unfold Hid mcL; rw [HF.out]; rfl
    rw [HF.out]
    go_enter Try.func54, Try.ntmps54
    go_wp2_with fail
    refine (calls_bool (isNode_any _ (h.grow hS.bl) hs2 (by decide)) g).mono ?_
    rintro e w1 ⟨rfl, hb⟩
    go_wp2_with fail
    go_ret2
    exact ⟨_, rfl, by rw [H.out]; exact World.ownsRow_nil _ _ _ _, bl_then hS.bl hb⟩
  · cases g2 : (f == t)
    · have HF : Hid (mcB xs fs f t = true) := by unfold Hid; rw [HB.out, g, g2]; rfl
      obtain ⟨hg, hf, ht, hne⟩ := mcB_parts HF.out
      obtain ⟨he, hn0, hn8, hm14⟩ := good_parts h hg
      rw [h.xlen] at hf ht
      obtain ⟨f', rfl⟩ : ∃ f' : Nat, f = (f' : Int) := ⟨f.toNat, by omega⟩
      obtain ⟨t', rfl⟩ : ∃ t' : Nat, t = (t' : Int) := ⟨t.toNat, by omega⟩
      have hlf := h.flen
      have H : Hid (mcL xs fs (f' : Int) (t' : Int) = cutL fs n f' t') := by unfold Hid mcL; rw [HF.out, h.xlen]; rfl
      have HW := hid (few_cut (fs := fs) (n := n) (f := f') (t := t') (by omega) (by omega) (by omega))
      rw [hlf] at HW
      rw [HF.out]
      have HN := hid h
      have HE := hid he
      have g3 : ((f' : Int) == (t' : Int)) = false := g2
      clear h he hlf
      go_enter Try.func54, Try.ntmps54
      go_wp2_with fail
      refine (calls_bool (isNode_any _ (HN.out.grow hS.bl) hs2 (by decide)) g).mono ?_
      rintro e w1 ⟨rfl, hb⟩
      replace hS := hS.step hb
      have q0 := hS.cell 2 0 rfl rfl
      have q1 := hS.cell 1 0 rfl rfl
      have q2 := hS.cell 3 1 rfl rfl
      clear hb hs2
      have hBN : Blk w1 w.heap.size 34 #[.slice A n c, .slice A' m d] := hS.get 3 rfl
      have hBF : Blk w1 (w.heap.size + 1) 3 #[.int .i64 (f' : Int)] := hS.get 2 rfl
      have hBT : Blk w1 (w.heap.size + 1 + 1) 3 #[.int .i64 (t' : Int)] := hS.get 1 rfl
      have HFW := hid (fewest_any (n := m) (p := cutP fs n f' t') (H := 132) (hcap := #[.pointer (some ⟨w.heap.size, 0, none⟩), .pointer (some ⟨w.heap.size + 1, 0, none⟩), .pointer (some ⟨w.heap.size + 1 + 1, 0, none⟩)]) (fun _ _ => by rfl) (by omega) w1
        (fun w' L G cc hcl hs hL hLn => minCut1_any w' ((HN.out.grow hS.bl).grow hcl) (hBN.below hcl hBN.lt) (hBF.below hcl hBF.lt) (hBT.below hcl hBT.lt) hs (by omega) HE.out (by omega) (by omega)))
      rw [HW.out] at HFW
      clear hBN hBF hBT
      go_wp2_with fail
      refine HFW.out.mono ?_
      rintro e w2 ⟨v, rfl, ho, hb2⟩
      have HO := hid (ho.base (base' := w.heap.size) hS.bl.size)
      have HZ := hid (bl_then hS.bl hb2)
      clear ho hb2 q0 q1 q2 hS
      go_wp2_with fail
      go_ret2
      exact ⟨_, rfl, by rw [H.out]; exact HO.out, HZ.out⟩
    · have HF : Hid (mcB xs fs f t = false) := by unfold Hid; rw [HB.out, g2]; simp
      have H : Hid (mcL xs fs f t = []) := by unfold Hid mcL; rw [HF.out]; rfl
      rw [HF.out]
      go_enter Try.func54, Try.ntmps54
      go_wp2_with fail
      refine (calls_bool (isNode_any _ (h.grow hS.bl) hs2 (by decide)) g).mono ?_
      rintro e w1 ⟨rfl, hb⟩
      replace hS := hS.step hb
      have q0 := hS.cell 2 0 rfl rfl
      have q1 := hS.cell 1 0 rfl rfl
      clear hb hs2
      go_wp2_with fail
      go_ret2
      exact ⟨_, rfl, by rw [H.out]; exact World.ownsRow_nil _ _ _ _, hS.bl⟩
set_option maxHeartbeats 1000000 in
set_option maxRecDepth 100000 in
theorem implDisjointCount (f t : Int) (w : World) (h : NetIs w A n c A' m d xs fs) :
    Calls Try.prog 56 #[.agg #[.slice A n c, .slice A' m d], .int .i64 f, .int .i64 t] w fun e w' => e = .returned (.tuple #[.int .i64 ((mcL xs fs f t).length : Nat), .bool (mcB xs fs f t)]) ∧ Below w.heap.size w w' := by
  have hS := (Led.nil w).blk_ w.heap.size rfl 34 #[.slice A n c, .slice A' m d]
  go_enter Try.func56, Try.ntmps56
  go_wp2_with fail
  refine (implMinimumCut f t _ (h.grow hS.bl)).mono ?_
  rintro e w1 ⟨v, rfl, ho, hb⟩
  obtain ⟨A1, c1, rfl, _⟩ := ho.form
  have HZ := hid (bl_then hS.bl hb)
  clear ho hb hS
  go_wp2_with fail
  go_ret2
  exact ⟨rfl, HZ.out⟩
end
end Go.Proofs.Ytgoegldffjfmdaa
/- Routes in the ledger: equal, marked, held. Conditions: at most 1048576 fibers; marks below 2^40. -/
namespace Go.Proofs.Ytgoegldffjfmdaa
open Go.RowKit
variable {w0 : World} {L : List Thing} {base base' c c' : Nat} {A A' : Option Addr} {ids : List Int}
set_option maxHeartbeats 1000000 in
set_option maxRecDepth 100000 in
theorem markR_led {w : World} (h : Led w0 w L) (i : Nat) (hi : L[i]? = some (tOwns elInt base 3 (.slice A ids.length c) ids)) (s k : Int) (hn : ids.length ≤ 1048576) (hk0 : 0 ≤ k) (hk : k ≤ 1099511627776) :
    Calls Try.prog 20 #[.agg #[.int .i64 s, .slice A ids.length c], .int .i64 k] w fun e w' => e = .returned (.int .i64 (k + ids.length)) ∧ Led w0 w' (L.set i (tOwns elInt base 3 (.slice A ids.length c) (marks k ids.length))) := by
  have h0 := h.blk 29 #[.int .i64 s, .slice A ids.length c]
  go_enter Try.func20, Try.ntmps20
  go_wp2_with fail
  refine (markI_led h0 (i + 1) (by simpa using hi) k hn hk0 hk).mono ?_
  rintro e w1 ⟨rfl, h1⟩
  have h2 : Led w0 w1 (L.set i (tOwns elInt base 3 (.slice A ids.length c) (marks k ids.length))) := h1.drop 1
  go_wp2_with fail
  go_ret
  exact ⟨rfl, h2⟩
set_option maxHeartbeats 1000000 in
set_option maxRecDepth 100000 in
theorem heldR_led {w : World} (h : Led w0 w L) (i : Nat) (s k : Int) {n : Nat} (hi : L[i]? = some (tOwns elInt base 3 (.slice A n c) (marks k n))) (hn : n ≤ 1048576) (hk0 : 0 ≤ k) (hk : k ≤ 1099511627776) :
    Calls Try.prog 21 #[.agg #[.int .i64 s, .slice A n c], .int .i64 k] w fun e w' => e = .returned (.int .i64 (k + n)) ∧ Led w0 w' L := by
  have h0 := h.blk 29 #[.int .i64 s, .slice A n c]
  go_enter Try.func21, Try.ntmps21
  go_wp2_with fail
  refine (heldI_led h0 (i + 1) k (by simpa using hi) hn hk0 hk).mono ?_
  rintro e w1 ⟨rfl, h1⟩
  have h2 : Led w0 w1 L := h1.drop 1
  go_wp2_with fail
  go_ret
  exact ⟨rfl, h2⟩
theorem eqR_led2 {w : World} (h : Led w0 w L) (i j : Nat) (hi : L[i]? = some (tOwns elInt base 3 (.slice A ids.length c) ids)) (hj : L[j]? = some (tOwns elInt base' 3 (.slice A' ids.length c') ids)) (s : Int) (hn : ids.length ≤ 1048576) :
    Calls Try.prog 17 #[.agg #[.int .i64 s, .slice A ids.length c], .agg #[.int .i64 s, .slice A' ids.length c']] w fun e w' => e = .returned (.bool true) ∧ Led w0 w' L ∧ Below w.heap.size w w' :=
  (eqRoute_any s w (h.seesI i hi) (h.seesI j hj) hn).mono fun _ _ ⟨he, hw⟩ => ⟨he, h.step hw, hw⟩
theorem eqR_led {w : World} (h : Led w0 w L) (i j : Nat) (hi : L[i]? = some (tOwns elInt base 3 (.slice A ids.length c) ids)) (hj : L[j]? = some (tOwns elInt base' 3 (.slice A' ids.length c') ids)) (s : Int) (hn : ids.length ≤ 1048576) :
    Calls Try.prog 17 #[.agg #[.int .i64 s, .slice A ids.length c], .agg #[.int .i64 s, .slice A' ids.length c']] w fun e w' => e = .returned (.bool true) ∧ Led w0 w' L :=
  (eqR_led2 h i j hi hj s hn).mono fun _ _ ⟨he, hw, _⟩ => ⟨he, hw⟩
end Go.Proofs.Ytgoegldffjfmdaa
