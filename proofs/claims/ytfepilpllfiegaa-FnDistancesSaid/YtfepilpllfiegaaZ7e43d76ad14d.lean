/- Lemmas and walks that the claim rests on, laid together. Conditions: none. -/
import Derived.Test.YtfepilpllfiegaaZ5e470b3a76ba
import Derived.Test.YtfepilpllfiegaaZ12f6cfc1e877
/- fewest, MinimumCut, DisjointCount of the program, walked. Conditions: as each states. -/
namespace Go.Proofs.Ytfepilpllfiegaa
open Go.RowKit
section
variable {n : Nat} {p : List Int → Bool} {H : FuncId} {hcap : Array Value}
set_option maxHeartbeats 1000000 in
set_option maxRecDepth 100000 in
/-- The visiting closure of fewest. -/
theorem fewest1_any (hcall : ∀ args wr, (callFunc H args).run Try.prog wr = .ok (.enter H args) wr) {L : List Int} {A : Option Addr} {c gb gh : Nat} {v0 : Value} (w : World) (hg : Blk w gb 33 #[v0]) (hh : Blk w gh 103 #[.func (.func H) #[] hcap]) (hne : gb ≠ gh)
    (hs : Sees elInt w w.heap.size A L.length L) (hA : ∀ b o, A = some ⟨b, o, none⟩ → b ≠ gb) (hl : L.length ≤ 1000)
    (hH : ∀ w', Touch (fun b => b = gb) w w' → Sees elInt w' w'.heap.size A L.length L → Calls Try.prog H (#[.slice A L.length c] ++ hcap) w' fun e w2 => e = .returned (.bool (p L)) ∧ Below w'.heap.size w' w2) :
    Calls Try.prog 137 #[.slice A L.length c, .pointer (some ⟨gb, 0, none⟩), .pointer (some ⟨gh, 0, none⟩)] w fun e w' => e = .returned (.bool (p L)) ∧ Touch (fun b => b = gb) w w' ∧ ∃ v, Blk w' gb 33 #[v] ∧ Owns elInt w' w.heap.size 3 v L := by
  have HS := hid hs
  have HH := hid hH
  have HA := hid hA
  have glt := hg.lt
  have HGH := hid hh
  clear hs hH hA
  go_enter Try.func137, Try.ntmps137
  go_wp2_with fail
  refine (cloneI_any _ HS.out (by omega)).mono ?_
  rintro e w1 ⟨v, rfl, ho, hb⟩
  obtain ⟨A1, c1, hv1, _⟩ := ho.form
  subst hv1
  have hg1 := hg.below hb hg.lt
  have c0 := hg1.cell 0
  simp at c0
  have f0 := hg1.frozen 0
  have ht1 : Touch (fun b => b = gb) w (w1.setCell ⟨gb, 0, none⟩ (.slice A1 L.length c1)) := (Touch.of_below hb).trans (Touch.set (S := fun b => b = gb) w1 (p := ⟨gb, 0, none⟩) rfl (.slice A1 L.length c1))
  have hg2 := hg1.set 0 (.slice A1 L.length c1)
  have e2 : (#[v0] : Array Value).setIfInBounds 0 (.slice A1 L.length c1) = #[.slice A1 L.length c1] := rfl
  rw [e2] at hg2
  have hh2 := HGH.out.touch ht1 (fun e => hne e.symm)
  have d1 := hh2.cell 0
  simp at d1
  have ho2 : Owns elInt (w1.setCell ⟨gb, 0, none⟩ (.slice A1 L.length c1)) w.heap.size 3 (.slice A1 L.length c1) L := ho.far glt _
  have HG2 := hid hg2
  have HO2 := hid ho2
  have HT1 := hid ht1
  clear ho hg1 hg2 ho2 ht1 hh2 e2
  go_wp2_with fail
  refine (HH.out _ HT1.out (HS.out.apart HT1.out HA.out)).mono ?_
  rintro e w3 ⟨rfl, hb3⟩
  have HB3 := hid hb3
  clear hb3 c0 f0 d1
  go_wp2_with fail
  go_ret
  exact ⟨rfl, HT1.out.then_ HB3.out, _, HG2.out.below HB3.out HG2.out.lt, HO2.out.below HB3.out⟩
set_option maxHeartbeats 2000000 in
set_option maxRecDepth 100000 in
theorem fewest_any (hcall : ∀ args wr, (callFunc H args).run Try.prog wr = .ok (.enter H args) wr) (hn : n ≤ 1000) (w : World)
    (hH : ∀ (w' : World) (L : List Int) (A : Option Addr) (c : Nat), Cls w w' → Sees elInt w' w'.heap.size A L.length L → lowL n L → L.length ≤ n → Calls Try.prog H (#[.slice A L.length c] ++ hcap) w' fun e w2 => e = .returned (.bool (p L)) ∧ Below w'.heap.size w' w2) :
    Calls Try.prog 81 #[.int .i64 n, .func (.func H) #[] hcap] w fun e w' => ∃ v, e = .returned (.tuple #[v, .bool (fewL p n).isSome]) ∧ Owns elInt w' w.heap.size 3 v ((fewL p n).getD []) ∧ Below w.heap.size w w' := by
  obtain ⟨f, hf⟩ : ∃ f : Nat → Option (List Int), f = fun c => chooseL p n c 0 [] := ⟨_, rfl⟩
  have HF : Hid (fewL p n = firstO f 0 (n + 1)) := by rw [hf]; rfl
  have HFK : Hid (∀ k, f k = chooseL p n k 0 []) := fun k => by rw [hf]
  have HH := hid hH
  have iw : IntKind.i64.wrap ((n : Int) + 1) = ((n + 1 : Nat) : Int) := by rw [IntWalk.i64_in _ (by omega)]; omega
  have hS0 := ((Led.nil w).blk_ w.heap.size rfl 103 #[.func (.func H) #[] hcap]).empty elInt 3 (w.heap.size + 1) (by simp) w.heap.size (by omega)
  have hS := hS0.blk_ (w.heap.size + 1 + 1) (by simp) 33 #[.slice (some ⟨w.heap.size + 1, 0, none⟩) 0 0]
  clear hf hH hS0
  go_enter Try.func81, Try.ntmps81
  go_wp2_with fail
  generalize ((w.alloc (.cells #[.func (.func H) #[] hcap] 103)).alloc (.cells #[] 3)).alloc (.cells #[.slice (some ⟨w.heap.size + 1, 0, none⟩) 0 0] 33) = W1 at *
  obtain ⟨gb, hgb⟩ : ∃ gb, w.heap.size + 1 + 1 = gb := ⟨_, rfl⟩
  rw [hgb] at hS ⊢
  have hgg : gb ≠ w.heap.size := by omega
  have hg0 : Blk W1 gb 33 #[.slice (some ⟨w.heap.size + 1, 0, none⟩) 0 0] := hS.get 0 rfl
  have hh0 : Blk W1 w.heap.size 103 #[.func (.func H) #[] hcap] := hS.get 2 rfl
  have hbl := hS.bl
  have hle : w.heap.size ≤ gb := by omega
  have hW1 := hbl.size
  have hlt1 := hg0.lt
  have hcls : ∀ w', Touch (fun b => b = gb) W1 w' → Below w.heap.size w w' := fun w' ht => hbl.trans (ht.below (fun k hk => by subst hk; exact hle) hW1)
  have V : Visit n p gb (fun w' => Touch (fun b => b = gb) W1 w' ∧ ∃ v, Blk w' gb 33 #[v]) (fun L w' => ∃ v, Blk w' gb 33 #[v] ∧ Owns elInt w' W1.heap.size 3 v L) 137 #[.pointer (some ⟨gb, 0, none⟩), .pointer (some ⟨w.heap.size, 0, none⟩)] := by
    refine ⟨fun _ _ => by rfl, fun w' w2 h hb => ⟨h.1.then_ hb, ?_⟩, fun w' h => ?_, fun w' L A c hI hs hA hL hln hlc => ?_⟩
    · obtain ⟨v, hv⟩ := h.2
      exact ⟨v, hv.below hb hv.lt⟩
    · obtain ⟨v, hv⟩ := h.2
      exact hv.lt
    · obtain ⟨ht, v, hv⟩ := hI
      have h1 := fewest1_any hcall (c := c) (p := p) w' hv (hh0.touch ht (fun e => hgg e.symm)) hgg hs hA (by omega) (fun w2 ht2 hs2 => HH.out w2 L A c (hcls w2 (ht.trans ht2)) hs2 hL hln)
      refine h1.mono ?_
      rintro e w3 ⟨rfl, ht3, v3, hg3, ho3⟩
      exact ⟨rfl, ⟨ht.trans ht3, v3, hg3⟩, ⟨v3, hg3, ho3.base ht.size⟩, ht3⟩
  have HI0 : Hid (Touch (fun b => b = gb) W1 W1 ∧ ∃ v, Blk W1 gb 33 #[v]) := ⟨Touch.refl _ _, _, hg0⟩
  have HCLS := hid hcls
  clear hS hg0 hh0 hbl hle hgb hcls HH
  go_loopw [12] (fun i wr => ∃ k : Nat, k ≤ n + 1 ∧ i = .int .i64 k ∧ Hid (Touch (fun b => b = gb) W1 wr ∧ ∃ v, Blk wr gb 33 #[v]) ∧ Hid (firstO f 0 (n + 1) = firstO f k (n + 1 - k))) (fun i _ => n + 1 - (intOf i).toNat)
  case atStart => exact ⟨0, Nat.zero_le _, rfl, HI0, rfl⟩
  case round =>
    clear HI0
    obtain ⟨k, hk, rfl, HI, HE⟩ := hrel
    by_cases hlt : k < n + 1
    · have ik : (k : Int) < (n : Int) + 1 := by omega
      have HC := hid (choices_any V hn k 0 [] none 0 wr (by simp; omega) (by decide) HI.out (Sees.nil elInt _ _ _) (fun b o e => by cases e) (fun x hx => by cases hx) (Nat.le_refl _))
      go_wp2_with fail
      refine HC.out.mono ?_
      rintro e w4 ⟨rfl, hI4, ht4, hO4⟩
      have HI4 := hid hI4
      have HO4 := hid hO4
      clear hI4 ht4 hO4 HC HI
      cases gx : chooseL p n k 0 [] with
      | none =>
        have HE2 : Hid (firstO f 0 (n + 1) = firstO f (k + 1) (n + 1 - (k + 1))) := by
          unfold Hid
          rw [HE.out, show n + 1 - k = (n + 1 - (k + 1)) + 1 by omega]
          exact firstO_none (by rw [HFK.out, gx])
        clear gx HO4 HE
        simp only [Option.isSome_none]
        go_wp2
        refine ⟨?_, by simp [intOf]; omega⟩
        first
          | exact ⟨k + 1, by omega, by go_num, HI4, HE2⟩
          | ((repeat apply Exists.intro); exact ⟨⟨k + 1, by omega, by go_num, HI4, HE2⟩, rfl⟩)
      | some R =>
        have HE2 : Hid (fewL p n = some R) := by
          unfold Hid
          rw [HF.out, HE.out, show n + 1 - k = (n + 1 - (k + 1)) + 1 by omega]
          exact firstO_some (by rw [HFK.out, gx])
        obtain ⟨v, hv, ho⟩ := HO4.out R gx
        have c0 := hv.cell 0
        simp at c0
        have HO5 := hid ho
        clear gx HO4 HE hv ho
        simp only [Option.isSome_some]
        go_wp2
        go_ret2
        exact ⟨_, by rw [HE2.out]; rfl, by rw [HE2.out]; exact HO5.out.base hW1, HCLS.out _ HI4.out.1⟩
    · have hk0 : n + 1 - k = 0 := by omega
      have HE2 : Hid (fewL p n = none) := by unfold Hid; rw [HF.out, HE.out, hk0]; rfl
      have ik : ¬ ((k : Int) < (n : Int) + 1) := by omega
      clear hk0 HE
      go_wp2
      go_ret2
      exact ⟨_, by rw [HE2.out]; rfl, by rw [HE2.out]; exact World.ownsRow_nil _ _ _ _, HCLS.out _ HI.out.1⟩
end
end Go.Proofs.Ytfepilpllfiegaa
/- MinimumCut, DisjointCount of the program, walked. Conditions: none. -/
namespace Go.Proofs.Ytfepilpllfiegaa
open Go.RowKit
theorem nodesB_two (n : Nat) (x y : Int) : nodesB n [x, y] = (inB 0 ((n : Int) - 1) x && inB 0 ((n : Int) - 1) y) := by simp [nodesB]
section
variable {n c m d : Nat} {A A' : Option Addr} {xs : List ByteArray} {fs : List Fib}
set_option maxHeartbeats 2000000 in
set_option maxRecDepth 100000 in
theorem minCut1_any {B k cc gN gF gT f t : Nat} {G : Option Addr} {l : List Int} (w : World) (h : NetIs w A n c A' m d xs fs) (hN : Blk w gN 27 #[.slice A n c, .slice A' m d]) (hF : Blk w gF 3 #[.int .i64 (f : Int)]) (hT : Blk w gT 3 #[.int .i64 (t : Int)])
    (hs : Sees elInt w B G k l) (hk : k ≤ 1048576) (he : endsB n fs) (hf : f < n) (ht : t < n) :
    Calls Try.prog 82 #[.slice G k cc, .pointer (some ⟨gN, 0, none⟩), .pointer (some ⟨gF, 0, none⟩), .pointer (some ⟨gT, 0, none⟩)] w fun e w' => e = .returned (.bool (cutP fs n f t l)) ∧ Below w.heap.size w w' := by
  have q0 := hN.cell 0
  have q1 := hN.cell 1
  simp at q0 q1
  obtain ⟨y, hy⟩ : ∃ y, y = compL (goneF l) fs n := ⟨_, rfl⟩
  have HP : Hid (cutP fs n f t l = !(valL y f == valL y t)) := by rw [hy]; rfl
  rw [HP.out]
  have HF := hid hF
  have HT := hid hT
  have hlc : Hid (y.length = n) := by rw [hy]; exact compL_len
  have HY := hid hy
  clear hy
  have iF : (f : Int) < (n : Int) := by omega
  have iT : (t : Int) < (n : Int) := by omega
  go_enter Try.func82, Try.ntmps82
  go_wp2_with fail
  refine (components_any _ h hs hk he (by omega)).mono ?_
  rintro e w1 ⟨v, rfl, ho, hb⟩
  obtain ⟨g, cV, rfl⟩ := ho.splitg compL_len (show 0 < n by omega)
  have hS := (Led.nil w).owns hb ho
  have hf1 := HF.out.below hb HF.out.lt
  have ht1 := HT.out.below hb HT.out.lt
  have c0 := hf1.cell 0
  have c1 := ht1.cell 0
  simp at c0 c1
  rw [← HY.out] at hS
  have F0 : ∀ w', Cls w1 w' → w'.cell? ⟨gF, 0, none⟩ = some (.int .i64 (f : Int)) := fun _ h => h.cell c0
  have T0 : ∀ w', Cls w1 w' → w'.cell? ⟨gT, 0, none⟩ = some (.int .i64 (t : Int)) := fun _ h => h.cell c1
  have V0 : ∀ w', Cls w1 w' → w'.cell? ⟨g, f, none⟩ = some (.int .i64 (valL y f)) := fun _ h => h.cell (hS.int_at 0 rfl (j := f) (by rw [hlc.out]; omega))
  have V1 : ∀ w', Cls w1 w' → w'.cell? ⟨g, t, none⟩ = some (.int .i64 (valL y t)) := fun _ h => h.cell (hS.int_at 0 rfl (j := t) (by rw [hlc.out]; omega))
  clear ho hb c0 c1
  go_wp2_with fail
  refine region_cls (by kernel_rfl) (by kernel_rfl) ?_
  repeat (first
    | ((with_reducible refine quiet_pos ?_ (fun K hK => ?_))
       · rfl
       apply Exists.intro
       refine ⟨fun w' hw' => ?_, ?_⟩
       · go_simp
         with_reducible rfl
       simp only [Act.put, List.setIfInBounds_toArray, List.set_cons_zero, List.set_cons_succ]
       refine hK _ ?_; clear hK K)
    | ((with_reducible refine quiet_neg ?_ (fun K hK => ?_))
       · rfl
       simp only [Act.put, List.setIfInBounds_toArray, List.set_cons_zero, List.set_cons_succ]
       refine hK _ ?_; clear hK K))
  with_reducible refine wpQuiet_nil ?_
  intro wz hwz'
  have HZ := hid (hS.step hwz').bl
  clear hS F0 T0 V0 V1 hwz' q0 q1
  go_wp2
  go_ret
  exact ⟨rfl, HZ.out⟩
set_option maxHeartbeats 2000000 in
set_option maxRecDepth 100000 in
theorem implMinimumCut (f t : Int) (w : World) (h : NetIs w A n c A' m d xs fs) :
    Calls Try.prog 28 #[.agg #[.slice A n c, .slice A' m d], .int .i64 f, .int .i64 t] w fun e w' => ∃ v, e = .returned (.tuple #[v, .bool (mcB xs fs f t)]) ∧ Owns elInt w' w.heap.size 3 v (mcL xs fs f t) ∧ Below w.heap.size w w' := by
  have hS := ((((Led.nil w).blk_ w.heap.size rfl 27 #[.slice A n c, .slice A' m d]).blk_ (w.heap.size + 1) (by simp) 3 #[.int .i64 f]).blk_ (w.heap.size + 1 + 1) (by simp) 3 #[.int .i64 t]).blk_ (w.heap.size + 1 + 1 + 1) (by simp) 3 #[.int .i64 f, .int .i64 t]
  have hs2 : Sees elInt ((((w.alloc (.cells #[.slice A n c, .slice A' m d] 27)).alloc (.cells #[.int .i64 f] 3)).alloc (.cells #[.int .i64 t] 3)).alloc (.cells #[.int .i64 f, .int .i64 t] 3)) (w.heap.size + 1 + 1 + 1 + 1) (some ⟨w.heap.size + 1 + 1 + 1, 0, none⟩) 2 [f, t] := by
    refine ⟨rfl, .inr ⟨_, _, rfl, Nat.lt_succ_self _, fun k x hx j u hu => ?_⟩⟩
    have hj : j = 0 := by have := (List.getElem?_eq_some_iff.1 hu).1; simp [elInt] at this; omega
    subst hj
    have hu' : Value.int .i64 x = u := by simpa [elInt] using hu
    subst hu'
    rcases k with _ | _ | k
    · simp at hx; subst hx; exact hS.cell 0 0 rfl rfl
    · simp at hx; subst hx; exact hS.cell 0 1 rfl rfl
    · simp at hx
  have HB : Hid (mcB xs fs f t = ((goodB xs fs && nodesB n [f, t]) && !(f == t))) := by unfold Hid mcB; rw [nodesB_two, h.xlen, Bool.and_assoc (goodB xs fs)]
  cases g : (goodB xs fs && nodesB n [f, t])
  · have HF : Hid (mcB xs fs f t = false) := by unfold Hid; rw [HB.out, g]; rfl
    have H : Hid (mcL xs fs f t = []) := by unfold Hid mcL; rw [HF.out]; rfl
    rw [HF.out]
    go_enter Try.func28, Try.ntmps28
    go_wp2_with fail
    refine (calls_bool (isNode_any _ (h.grow hS.bl) hs2 (by decide)) g).mono ?_
    rintro e w1 ⟨rfl, hb⟩
    go_wp2_with fail
    go_ret2
    exact ⟨_, rfl, by rw [H.out]; exact World.ownsRow_nil _ _ _ _, bl_then hS.bl hb⟩
  · cases g2 : (f == t)
    · have HF : Hid (mcB xs fs f t = true) := by unfold Hid; rw [HB.out, g, g2]; rfl
      obtain ⟨hg, hf, ht, hne⟩ := mcB_parts HF.out
      obtain ⟨he, hn0, hn8, hm14⟩ := good_parts h hg
      rw [h.xlen] at hf ht
      obtain ⟨f', rfl⟩ : ∃ f' : Nat, f = (f' : Int) := ⟨f.toNat, by omega⟩
      obtain ⟨t', rfl⟩ : ∃ t' : Nat, t = (t' : Int) := ⟨t.toNat, by omega⟩
      have hlf := h.flen
      have H : Hid (mcL xs fs (f' : Int) (t' : Int) = cutL fs n f' t') := by unfold Hid mcL; rw [HF.out, h.xlen]; rfl
      have HW := hid (few_cut (fs := fs) (n := n) (f := f') (t := t') (by omega) (by omega) (by omega))
      rw [hlf] at HW
      rw [HF.out]
      have HN := hid h
      have HE := hid he
      have g3 : ((f' : Int) == (t' : Int)) = false := g2
      clear h he hlf
      go_enter Try.func28, Try.ntmps28
      go_wp2_with fail
      refine (calls_bool (isNode_any _ (HN.out.grow hS.bl) hs2 (by decide)) g).mono ?_
      rintro e w1 ⟨rfl, hb⟩
      replace hS := hS.step hb
      have q0 := hS.cell 2 0 rfl rfl
      have q1 := hS.cell 1 0 rfl rfl
      have q2 := hS.cell 3 1 rfl rfl
      clear hb hs2
      have hBN : Blk w1 w.heap.size 27 #[.slice A n c, .slice A' m d] := hS.get 3 rfl
      have hBF : Blk w1 (w.heap.size + 1) 3 #[.int .i64 (f' : Int)] := hS.get 2 rfl
      have hBT : Blk w1 (w.heap.size + 1 + 1) 3 #[.int .i64 (t' : Int)] := hS.get 1 rfl
      have HFW := hid (fewest_any (n := m) (p := cutP fs n f' t') (H := 82) (hcap := #[.pointer (some ⟨w.heap.size, 0, none⟩), .pointer (some ⟨w.heap.size + 1, 0, none⟩), .pointer (some ⟨w.heap.size + 1 + 1, 0, none⟩)]) (fun _ _ => by rfl) (by omega) w1
        (fun w' L G cc hcl hs hL hLn => minCut1_any w' ((HN.out.grow hS.bl).grow hcl) (hBN.below hcl hBN.lt) (hBF.below hcl hBF.lt) (hBT.below hcl hBT.lt) hs (by omega) HE.out (by omega) (by omega)))
      rw [HW.out] at HFW
      clear hBN hBF hBT
      go_wp2_with fail
      refine HFW.out.mono ?_
      rintro e w2 ⟨v, rfl, ho, hb2⟩
      have HO := hid (ho.base (base' := w.heap.size) hS.bl.size)
      have HZ := hid (bl_then hS.bl hb2)
      clear ho hb2 q0 q1 q2 hS
      go_wp2_with fail
      go_ret2
      exact ⟨_, rfl, by rw [H.out]; exact HO.out, HZ.out⟩
    · have HF : Hid (mcB xs fs f t = false) := by unfold Hid; rw [HB.out, g2]; simp
      have H : Hid (mcL xs fs f t = []) := by unfold Hid mcL; rw [HF.out]; rfl
      rw [HF.out]
      go_enter Try.func28, Try.ntmps28
      go_wp2_with fail
      refine (calls_bool (isNode_any _ (h.grow hS.bl) hs2 (by decide)) g).mono ?_
      rintro e w1 ⟨rfl, hb⟩
      replace hS := hS.step hb
      have q0 := hS.cell 2 0 rfl rfl
      have q1 := hS.cell 1 0 rfl rfl
      clear hb hs2
      go_wp2_with fail
      go_ret2
      exact ⟨_, rfl, by rw [H.out]; exact World.ownsRow_nil _ _ _ _, hS.bl⟩
set_option maxHeartbeats 1000000 in
set_option maxRecDepth 100000 in
theorem implDisjointCount (f t : Int) (w : World) (h : NetIs w A n c A' m d xs fs) :
    Calls Try.prog 30 #[.agg #[.slice A n c, .slice A' m d], .int .i64 f, .int .i64 t] w fun e w' => e = .returned (.tuple #[.int .i64 ((mcL xs fs f t).length : Nat), .bool (mcB xs fs f t)]) ∧ Below w.heap.size w w' := by
  have hS := (Led.nil w).blk_ w.heap.size rfl 27 #[.slice A n c, .slice A' m d]
  go_enter Try.func30, Try.ntmps30
  go_wp2_with fail
  refine (implMinimumCut f t _ (h.grow hS.bl)).mono ?_
  rintro e w1 ⟨v, rfl, ho, hb⟩
  obtain ⟨A1, c1, rfl, _⟩ := ho.form
  have HZ := hid (bl_then hS.bl hb)
  clear ho hb hS
  go_wp2_with fail
  go_ret2
  exact ⟨rfl, HZ.out⟩
end
end Go.Proofs.Ytfepilpllfiegaa
/- The greatest distance, in plain Lean, in two spellings. Conditions: none. -/
namespace Go.Proofs.Ytfepilpllfiegaa
/-- What is kept: the nodes and the distance. -/
structure Dia where
  x : Int
  y : Int
  m : Int
def diaStep (a b : Nat) (d : Int) (s : Dia) : Dia := if a < b ∧ s.m < d then ⟨a, b, d⟩ else s
def diaRow (D : List Int) (a : Nat) (s : Dia) : Nat → Dia
  | 0 => s
  | b + 1 => diaStep a b (valL D b) (diaRow D a s b)
def diaTo (F : Nat → List Int) (n : Nat) (s : Dia) : Nat → Dia
  | 0 => s
  | a + 1 => diaRow (F a) a (diaTo F n s a) n
/-- Is every node reached from every one? -/
def allD (F : Nat → List Int) (n : Nat) : Bool := allB (fun a => allB (fun b => decide (0 ≤ valL (F a) b)) n) n
section
variable {F : Nat → List Int} {n : Nat}
theorem diaRow_two {D : List Int} {s t : Dia} (k : Nat) (hs : s.m = 0) (ht : t.m = -1) (h1 : 1 ≤ valL D 1) : diaRow D 0 s (k + 2) = diaRow D 0 t (k + 2) := by
  induction k with
  | zero =>
    show diaStep 0 1 (valL D 1) (diaStep 0 0 (valL D 0) s) = diaStep 0 1 (valL D 1) (diaStep 0 0 (valL D 0) t)
    have e1 : diaStep 0 0 (valL D 0) s = s := if_neg (by omega)
    have e2 : diaStep 0 0 (valL D 0) t = t := if_neg (by omega)
    rw [e1, e2]
    unfold diaStep
    rw [if_pos (by omega), if_pos (by omega)]
  | succ k ih =>
    show diaStep 0 (k + 2) _ (diaRow D 0 s (k + 2)) = diaStep 0 (k + 2) _ (diaRow D 0 t (k + 2))
    rw [ih]
theorem diaTo_two (hn : 2 ≤ n) (h1 : 1 ≤ valL (F 0) 1) (k : Nat) : diaTo F n ⟨0, 0, 0⟩ (k + 1) = diaTo F n ⟨0, 0, -1⟩ (k + 1) := by
  induction k with
  | zero =>
    show diaRow (F 0) 0 ⟨0, 0, 0⟩ n = diaRow (F 0) 0 ⟨0, 0, -1⟩ n
    obtain ⟨j, rfl⟩ : ∃ j, n = j + 2 := ⟨n - 2, by omega⟩
    exact diaRow_two j rfl rfl h1
  | succ k ih =>
    show diaRow (F (k + 1)) (k + 1) (diaTo F n ⟨0, 0, 0⟩ (k + 1)) n = diaRow (F (k + 1)) (k + 1) (diaTo F n ⟨0, 0, -1⟩ (k + 1)) n
    rw [ih]
theorem allD_no {a b : Nat} (ha : a < n) (hb : b < n) (h : valL (F a) b < 0) : allD F n = false := by
  unfold allD
  exact allB_no ha (allB_no hb (by simp; omega))
theorem allD_yes (h : allTo (fun a => allB (fun b => decide (0 ≤ valL (F a) b)) n) n) : allD F n = true := allB_iff.2 h
end
section
variable {xs : List ByteArray} {fs : List Fib}
/-- The distances from a node. -/
def dsF (fs : List Fib) (n a : Nat) : List Int := distL (goneF []) fs n a
def diaB (xs : List ByteArray) (fs : List Fib) : Bool := goodB xs fs && allD (dsF fs xs.length) xs.length
def diaV (xs : List ByteArray) (fs : List Fib) : Dia := if diaB xs fs then diaTo (dsF fs xs.length) xs.length ⟨0, 0, 0⟩ xs.length else ⟨0, 0, 0⟩
end
end Go.Proofs.Ytfepilpllfiegaa
