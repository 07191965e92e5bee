/- Lemmas and walks that the claim rests on, laid together. Conditions: none. -/
import Derived.Test.YtfepilpllfiegaaZ5e470b3a76ba
import Derived.Test.YtfepilpllfiegaaZa289d20bf77f
import Derived.Test.YtfepilpllfiegaaZ76d3d4a5ee99
import Derived.Test.YtfepilpllfiegaaZf3c2460d17f0
import Derived.Test.YtfepilpllfiegaaZ9c180253184b
import Derived.Test.YtfepilpllfiegaaZc3e33f13110d
import Derived.Deep.RegionHeld3
/- fewest, MinimumCut, DisjointCount of the program, walked. Conditions: as each states. -/
namespace Go.Proofs.Ytfepilpllfiegaa
open Go.RowKit
section
variable {n : Nat} {p : List Int → Bool} {H : FuncId} {hcap : Array Value}
set_option maxHeartbeats 1000000 in
set_option maxRecDepth 100000 in
/-- The visiting closure of fewest. -/
theorem fewest1_any (hcall : ∀ args wr, (callFunc H args).run Try.prog wr = .ok (.enter H args) wr) {L : List Int} {A : Option Addr} {c gb gh : Nat} {v0 : Value} (w : World) (hg : Blk w gb 33 #[v0]) (hh : Blk w gh 103 #[.func (.func H) #[] hcap]) (hne : gb ≠ gh)
    (hs : Sees elInt w w.heap.size A L.length L) (hA : ∀ b o, A = some ⟨b, o, none⟩ → b ≠ gb) (hl : L.length ≤ 1000)
    (hH : ∀ w', Touch (fun b => b = gb) w w' → Sees elInt w' w'.heap.size A L.length L → Calls Try.prog H (#[.slice A L.length c] ++ hcap) w' fun e w2 => e = .returned (.bool (p L)) ∧ Below w'.heap.size w' w2) :
    Calls Try.prog 137 #[.slice A L.length c, .pointer (some ⟨gb, 0, none⟩), .pointer (some ⟨gh, 0, none⟩)] w fun e w' => e = .returned (.bool (p L)) ∧ Touch (fun b => b = gb) w w' ∧ ∃ v, Blk w' gb 33 #[v] ∧ Owns elInt w' w.heap.size 3 v L := by
  have HS := hid hs
  have HH := hid hH
  have HA := hid hA
  have glt := hg.lt
  have HGH := hid hh
  clear hs hH hA
  go_enter Try.func137, Try.ntmps137
  go_wp2_with fail
  refine (cloneI_any _ HS.out (by omega)).mono ?_
  rintro e w1 ⟨v, rfl, ho, hb⟩
  obtain ⟨A1, c1, hv1, _⟩ := ho.form
  subst hv1
  have hg1 := hg.below hb hg.lt
  have c0 := hg1.cell 0
  simp at c0
  have f0 := hg1.frozen 0
  have ht1 : Touch (fun b => b = gb) w (w1.setCell ⟨gb, 0, none⟩ (.slice A1 L.length c1)) := (Touch.of_below hb).trans (Touch.set (S := fun b => b = gb) w1 (p := ⟨gb, 0, none⟩) rfl (.slice A1 L.length c1))
  have hg2 := hg1.set 0 (.slice A1 L.length c1)
  have e2 : (#[v0] : Array Value).setIfInBounds 0 (.slice A1 L.length c1) = #[.slice A1 L.length c1] := rfl
  rw [e2] at hg2
  have hh2 := HGH.out.touch ht1 (fun e => hne e.symm)
  have d1 := hh2.cell 0
  simp at d1
  have ho2 : Owns elInt (w1.setCell ⟨gb, 0, none⟩ (.slice A1 L.length c1)) w.heap.size 3 (.slice A1 L.length c1) L := ho.far glt _
  have HG2 := hid hg2
  have HO2 := hid ho2
  have HT1 := hid ht1
  clear ho hg1 hg2 ho2 ht1 hh2 e2
  go_wp2_with fail
  refine (HH.out _ HT1.out (HS.out.apart HT1.out HA.out)).mono ?_
  rintro e w3 ⟨rfl, hb3⟩
  have HB3 := hid hb3
  clear hb3 c0 f0 d1
  go_wp2_with fail
  go_ret
  exact ⟨rfl, HT1.out.then_ HB3.out, _, HG2.out.below HB3.out HG2.out.lt, HO2.out.below HB3.out⟩
set_option maxHeartbeats 2000000 in
set_option maxRecDepth 100000 in
theorem fewest_any (hcall : ∀ args wr, (callFunc H args).run Try.prog wr = .ok (.enter H args) wr) (hn : n ≤ 1000) (w : World)
    (hH : ∀ (w' : World) (L : List Int) (A : Option Addr) (c : Nat), Cls w w' → Sees elInt w' w'.heap.size A L.length L → lowL n L → L.length ≤ n → Calls Try.prog H (#[.slice A L.length c] ++ hcap) w' fun e w2 => e = .returned (.bool (p L)) ∧ Below w'.heap.size w' w2) :
    Calls Try.prog 81 #[.int .i64 n, .func (.func H) #[] hcap] w fun e w' => ∃ v, e = .returned (.tuple #[v, .bool (fewL p n).isSome]) ∧ Owns elInt w' w.heap.size 3 v ((fewL p n).getD []) ∧ Below w.heap.size w w' := by
  obtain ⟨f, hf⟩ : ∃ f : Nat → Option (List Int), f = fun c => chooseL p n c 0 [] := ⟨_, rfl⟩
  have HF : Hid (fewL p n = firstO f 0 (n + 1)) := by rw [hf]; rfl
  have HFK : Hid (∀ k, f k = chooseL p n k 0 []) := fun k => by rw [hf]
  have HH := hid hH
  have iw : IntKind.i64.wrap ((n : Int) + 1) = ((n + 1 : Nat) : Int) := by rw [IntWalk.i64_in _ (by omega)]; omega
  have hS0 := ((Led.nil w).blk_ w.heap.size rfl 103 #[.func (.func H) #[] hcap]).empty elInt 3 (w.heap.size + 1) (by simp) w.heap.size (by omega)
  have hS := hS0.blk_ (w.heap.size + 1 + 1) (by simp) 33 #[.slice (some ⟨w.heap.size + 1, 0, none⟩) 0 0]
  clear hf hH hS0
  go_enter Try.func81, Try.ntmps81
  go_wp2_with fail
  generalize ((w.alloc (.cells #[.func (.func H) #[] hcap] 103)).alloc (.cells #[] 3)).alloc (.cells #[.slice (some ⟨w.heap.size + 1, 0, none⟩) 0 0] 33) = W1 at *
  obtain ⟨gb, hgb⟩ : ∃ gb, w.heap.size + 1 + 1 = gb := ⟨_, rfl⟩
  rw [hgb] at hS ⊢
  have hgg : gb ≠ w.heap.size := by omega
  have hg0 : Blk W1 gb 33 #[.slice (some ⟨w.heap.size + 1, 0, none⟩) 0 0] := hS.get 0 rfl
  have hh0 : Blk W1 w.heap.size 103 #[.func (.func H) #[] hcap] := hS.get 2 rfl
  have hbl := hS.bl
  have hle : w.heap.size ≤ gb := by omega
  have hW1 := hbl.size
  have hlt1 := hg0.lt
  have hcls : ∀ w', Touch (fun b => b = gb) W1 w' → Below w.heap.size w w' := fun w' ht => hbl.trans (ht.below (fun k hk => by subst hk; exact hle) hW1)
  have V : Visit n p gb (fun w' => Touch (fun b => b = gb) W1 w' ∧ ∃ v, Blk w' gb 33 #[v]) (fun L w' => ∃ v, Blk w' gb 33 #[v] ∧ Owns elInt w' W1.heap.size 3 v L) 137 #[.pointer (some ⟨gb, 0, none⟩), .pointer (some ⟨w.heap.size, 0, none⟩)] := by
    refine ⟨fun _ _ => by rfl, fun w' w2 h hb => ⟨h.1.then_ hb, ?_⟩, fun w' h => ?_, fun w' L A c hI hs hA hL hln hlc => ?_⟩
    · obtain ⟨v, hv⟩ := h.2
      exact ⟨v, hv.below hb hv.lt⟩
    · obtain ⟨v, hv⟩ := h.2
      exact hv.lt
    · obtain ⟨ht, v, hv⟩ := hI
      have h1 := fewest1_any hcall (c := c) (p := p) w' hv (hh0.touch ht (fun e => hgg e.symm)) hgg hs hA (by omega) (fun w2 ht2 hs2 => HH.out w2 L A c (hcls w2 (ht.trans ht2)) hs2 hL hln)
      refine h1.mono ?_
      rintro e w3 ⟨rfl, ht3, v3, hg3, ho3⟩
      exact ⟨rfl, ⟨ht.trans ht3, v3, hg3⟩, ⟨v3, hg3, ho3.base ht.size⟩, ht3⟩
  have HI0 : Hid (Touch (fun b => b = gb) W1 W1 ∧ ∃ v, Blk W1 gb 33 #[v]) := ⟨Touch.refl _ _, _, hg0⟩
  have HCLS := hid hcls
  clear hS hg0 hh0 hbl hle hgb hcls HH
  go_loopw [12] (fun i wr => ∃ k : Nat, k ≤ n + 1 ∧ i = .int .i64 k ∧ Hid (Touch (fun b => b = gb) W1 wr ∧ ∃ v, Blk wr gb 33 #[v]) ∧ Hid (firstO f 0 (n + 1) = firstO f k (n + 1 - k))) (fun i _ => n + 1 - (intOf i).toNat)
  case atStart => exact ⟨0, Nat.zero_le _, rfl, HI0, rfl⟩
  case round =>
    clear HI0
    obtain ⟨k, hk, rfl, HI, HE⟩ := hrel
    by_cases hlt : k < n + 1
    · have ik : (k : Int) < (n : Int) + 1 := by omega
      have HC := hid (choices_any V hn k 0 [] none 0 wr (by simp; omega) (by decide) HI.out (Sees.nil elInt _ _ _) (fun b o e => by cases e) (fun x hx => by cases hx) (Nat.le_refl _))
      go_wp2_with fail
      refine HC.out.mono ?_
      rintro e w4 ⟨rfl, hI4, ht4, hO4⟩
      have HI4 := hid hI4
      have HO4 := hid hO4
      clear hI4 ht4 hO4 HC HI
      cases gx : chooseL p n k 0 [] with
      | none =>
        have HE2 : Hid (firstO f 0 (n + 1) = firstO f (k + 1) (n + 1 - (k + 1))) := by
          unfold Hid
          rw [HE.out, show n + 1 - k = (n + 1 - (k + 1)) + 1 by omega]
          exact firstO_none (by rw [HFK.out, gx])
        clear gx HO4 HE
        simp only [Option.isSome_none]
        go_wp2
        refine ⟨?_, by simp [intOf]; omega⟩
        first
          | exact ⟨k + 1, by omega, by go_num, HI4, HE2⟩
          | ((repeat apply Exists.intro); exact ⟨⟨k + 1, by omega, by go_num, HI4, HE2⟩, rfl⟩)
      | some R =>
        have HE2 : Hid (fewL p n = some R) := by
          unfold Hid
          rw [HF.out, HE.out, show n + 1 - k = (n + 1 - (k + 1)) + 1 by omega]
          exact firstO_some (by rw [HFK.out, gx])
        obtain ⟨v, hv, ho⟩ := HO4.out R gx
        have c0 := hv.cell 0
        simp at c0
        have HO5 := hid ho
        clear gx HO4 HE hv ho
        simp only [Option.isSome_some]
        go_wp2
        go_ret2
        exact ⟨_, by rw [HE2.out]; rfl, by rw [HE2.out]; exact HO5.out.base hW1, HCLS.out _ HI4.out.1⟩
    · have hk0 : n + 1 - k = 0 := by omega
      have HE2 : Hid (fewL p n = none) := by unfold Hid; rw [HF.out, HE.out, hk0]; rfl
      have ik : ¬ ((k : Int) < (n : Int) + 1) := by omega
      clear hk0 HE
      go_wp2
      go_ret2
      exact ⟨_, by rw [HE2.out]; rfl, by rw [HE2.out]; exact World.ownsRow_nil _ _ _ _, HCLS.out _ HI.out.1⟩
end
end Go.Proofs.Ytfepilpllfiegaa
/- MinimumCut, DisjointCount of the program, walked. Conditions: none. -/
namespace Go.Proofs.Ytfepilpllfiegaa
open Go.RowKit
theorem nodesB_two (n : Nat) (x y : Int) : nodesB n [x, y] = (inB 0 ((n : Int) - 1) x && inB 0 ((n : Int) - 1) y) := by simp [nodesB]
section
variable {n c m d : Nat} {A A' : Option Addr} {xs : List ByteArray} {fs : List Fib}
set_option maxHeartbeats 2000000 in
set_option maxRecDepth 100000 in
theorem minCut1_any {B k cc gN gF gT f t : Nat} {G : Option Addr} {l : List Int} (w : World) (h : NetIs w A n c A' m d xs fs) (hN : Blk w gN 27 #[.slice A n c, .slice A' m d]) (hF : Blk w gF 3 #[.int .i64 (f : Int)]) (hT : Blk w gT 3 #[.int .i64 (t : Int)])
    (hs : Sees elInt w B G k l) (hk : k ≤ 1048576) (he : endsB n fs) (hf : f < n) (ht : t < n) :
    Calls Try.prog 82 #[.slice G k cc, .pointer (some ⟨gN, 0, none⟩), .pointer (some ⟨gF, 0, none⟩), .pointer (some ⟨gT, 0, none⟩)] w fun e w' => e = .returned (.bool (cutP fs n f t l)) ∧ Below w.heap.size w w' := by
  have q0 := hN.cell 0
  have q1 := hN.cell 1
  simp at q0 q1
  obtain ⟨y, hy⟩ : ∃ y, y = compL (goneF l) fs n := ⟨_, rfl⟩
  have HP : Hid (cutP fs n f t l = !(valL y f == valL y t)) := by rw [hy]; rfl
  rw [HP.out]
  have HF := hid hF
  have HT := hid hT
  have hlc : Hid (y.length = n) := by rw [hy]; exact compL_len
  have HY := hid hy
  clear hy
  have iF : (f : Int) < (n : Int) := by omega
  have iT : (t : Int) < (n : Int) := by omega
  go_enter Try.func82, Try.ntmps82
  go_wp2_with fail
  refine (components_any _ h hs hk he (by omega)).mono ?_
  rintro e w1 ⟨v, rfl, ho, hb⟩
  obtain ⟨g, cV, rfl⟩ := ho.splitg compL_len (show 0 < n by omega)
  have hS := (Led.nil w).owns hb ho
  have hf1 := HF.out.below hb HF.out.lt
  have ht1 := HT.out.below hb HT.out.lt
  have c0 := hf1.cell 0
  have c1 := ht1.cell 0
  simp at c0 c1
  rw [← HY.out] at hS
  have F0 : ∀ w', Cls w1 w' → w'.cell? ⟨gF, 0, none⟩ = some (.int .i64 (f : Int)) := fun _ h => h.cell c0
  have T0 : ∀ w', Cls w1 w' → w'.cell? ⟨gT, 0, none⟩ = some (.int .i64 (t : Int)) := fun _ h => h.cell c1
  have V0 : ∀ w', Cls w1 w' → w'.cell? ⟨g, f, none⟩ = some (.int .i64 (valL y f)) := fun _ h => h.cell (hS.int_at 0 rfl (j := f) (by rw [hlc.out]; omega))
  have V1 : ∀ w', Cls w1 w' → w'.cell? ⟨g, t, none⟩ = some (.int .i64 (valL y t)) := fun _ h => h.cell (hS.int_at 0 rfl (j := t) (by rw [hlc.out]; omega))
  clear ho hb c0 c1
  go_wp2_with fail
  refine region_cls (by kernel_rfl) (by kernel_rfl) ?_
  repeat (first
    | ((with_reducible refine quiet_pos ?_ (fun K hK => ?_))
       · rfl
       apply Exists.intro
       refine ⟨fun w' hw' => ?_, ?_⟩
       · go_simp
         with_reducible rfl
       simp only [Act.put, List.setIfInBounds_toArray, List.set_cons_zero, List.set_cons_succ]
       refine hK _ ?_; clear hK K)
    | ((with_reducible refine quiet_neg ?_ (fun K hK => ?_))
       · rfl
       simp only [Act.put, List.setIfInBounds_toArray, List.set_cons_zero, List.set_cons_succ]
       refine hK _ ?_; clear hK K))
  with_reducible refine wpQuiet_nil ?_
  intro wz hwz'
  have HZ := hid (hS.step hwz').bl
  clear hS F0 T0 V0 V1 hwz' q0 q1
  go_wp2
  go_ret
  exact ⟨rfl, HZ.out⟩
set_option maxHeartbeats 2000000 in
set_option maxRecDepth 100000 in
theorem implMinimumCut (f t : Int) (w : World) (h : NetIs w A n c A' m d xs fs) :
    Calls Try.prog 28 #[.agg #[.slice A n c, .slice A' m d], .int .i64 f, .int .i64 t] w fun e w' => ∃ v, e = .returned (.tuple #[v, .bool (mcB xs fs f t)]) ∧ Owns elInt w' w.heap.size 3 v (mcL xs fs f t) ∧ Below w.heap.size w w' := by
  have hS := ((((Led.nil w).blk_ w.heap.size rfl 27 #[.slice A n c, .slice A' m d]).blk_ (w.heap.size + 1) (by simp) 3 #[.int .i64 f]).blk_ (w.heap.size + 1 + 1) (by simp) 3 #[.int .i64 t]).blk_ (w.heap.size + 1 + 1 + 1) (by simp) 3 #[.int .i64 f, .int .i64 t]
  have hs2 : Sees elInt ((((w.alloc (.cells #[.slice A n c, .slice A' m d] 27)).alloc (.cells #[.int .i64 f] 3)).alloc (.cells #[.int .i64 t] 3)).alloc (.cells #[.int .i64 f, .int .i64 t] 3)) (w.heap.size + 1 + 1 + 1 + 1) (some ⟨w.heap.size + 1 + 1 + 1, 0, none⟩) 2 [f, t] := by
    refine ⟨rfl, .inr ⟨_, _, rfl, Nat.lt_succ_self _, fun k x hx j u hu => ?_⟩⟩
    have hj : j = 0 := by have := (List.getElem?_eq_some_iff.1 hu).1; simp [elInt] at this; omega
    subst hj
    have hu' : Value.int .i64 x = u := by simpa [elInt] using hu
    subst hu'
    rcases k with _ | _ | k
    · simp at hx; subst hx; exact hS.cell 0 0 rfl rfl
    · simp at hx; subst hx; exact hS.cell 0 1 rfl rfl
    · simp at hx
  have HB : Hid (mcB xs fs f t = ((goodB xs fs && nodesB n [f, t]) && !(f == t))) := by unfold Hid mcB; rw [nodesB_two, h.xlen, Bool.and_assoc (goodB xs fs)]
  cases g : (goodB xs fs && nodesB n [f, t])
  · have HF : Hid (mcB xs fs f t = false) := by unfold Hid; rw [HB.out, g]; rfl
    have H : Hid (mcL xs fs f t = []) := by unfold Hid mcL; rw [HF.out]; rfl
    rw [HF.out]
    go_enter Try.func28, Try.ntmps28
    go_wp2_with fail
    refine (calls_bool (isNode_any _ (h.grow hS.bl) hs2 (by decide)) g).mono ?_
    rintro e w1 ⟨rfl, hb⟩
    go_wp2_with fail
    go_ret2
    exact ⟨_, rfl, by rw [H.out]; exact World.ownsRow_nil _ _ _ _, bl_then hS.bl hb⟩
  · cases g2 : (f == t)
    · have HF : Hid (mcB xs fs f t = true) := by unfold Hid; rw [HB.out, g, g2]; rfl
      obtain ⟨hg, hf, ht, hne⟩ := mcB_parts HF.out
      obtain ⟨he, hn0, hn8, hm14⟩ := good_parts h hg
      rw [h.xlen] at hf ht
      obtain ⟨f', rfl⟩ : ∃ f' : Nat, f = (f' : Int) := ⟨f.toNat, by omega⟩
      obtain ⟨t', rfl⟩ : ∃ t' : Nat, t = (t' : Int) := ⟨t.toNat, by omega⟩
      have hlf := h.flen
      have H : Hid (mcL xs fs (f' : Int) (t' : Int) = cutL fs n f' t') := by unfold Hid mcL; rw [HF.out, h.xlen]; rfl
      have HW := hid (few_cut (fs := fs) (n := n) (f := f') (t := t') (by omega) (by omega) (by omega))
      rw [hlf] at HW
      rw [HF.out]
      have HN := hid h
      have HE := hid he
      have g3 : ((f' : Int) == (t' : Int)) = false := g2
      clear h he hlf
      go_enter Try.func28, Try.ntmps28
      go_wp2_with fail
      refine (calls_bool (isNode_any _ (HN.out.grow hS.bl) hs2 (by decide)) g).mono ?_
      rintro e w1 ⟨rfl, hb⟩
      replace hS := hS.step hb
      have q0 := hS.cell 2 0 rfl rfl
      have q1 := hS.cell 1 0 rfl rfl
      have q2 := hS.cell 3 1 rfl rfl
      clear hb hs2
      have hBN : Blk w1 w.heap.size 27 #[.slice A n c, .slice A' m d] := hS.get 3 rfl
      have hBF : Blk w1 (w.heap.size + 1) 3 #[.int .i64 (f' : Int)] := hS.get 2 rfl
      have hBT : Blk w1 (w.heap.size + 1 + 1) 3 #[.int .i64 (t' : Int)] := hS.get 1 rfl
      have HFW := hid (fewest_any (n := m) (p := cutP fs n f' t') (H := 82) (hcap := #[.pointer (some ⟨w.heap.size, 0, none⟩), .pointer (some ⟨w.heap.size + 1, 0, none⟩), .pointer (some ⟨w.heap.size + 1 + 1, 0, none⟩)]) (fun _ _ => by rfl) (by omega) w1
        (fun w' L G cc hcl hs hL hLn => minCut1_any w' ((HN.out.grow hS.bl).grow hcl) (hBN.below hcl hBN.lt) (hBF.below hcl hBF.lt) (hBT.below hcl hBT.lt) hs (by omega) HE.out (by omega) (by omega)))
      rw [HW.out] at HFW
      clear hBN hBF hBT
      go_wp2_with fail
      refine HFW.out.mono ?_
      rintro e w2 ⟨v, rfl, ho, hb2⟩
      have HO := hid (ho.base (base' := w.heap.size) hS.bl.size)
      have HZ := hid (bl_then hS.bl hb2)
      clear ho hb2 q0 q1 q2 hS
      go_wp2_with fail
      go_ret2
      exact ⟨_, rfl, by rw [H.out]; exact HO.out, HZ.out⟩
    · have HF : Hid (mcB xs fs f t = false) := by unfold Hid; rw [HB.out, g2]; simp
      have H : Hid (mcL xs fs f t = []) := by unfold Hid mcL; rw [HF.out]; rfl
      rw [HF.out]
      go_enter Try.func28, Try.ntmps28
      go_wp2_with fail
      refine (calls_bool (isNode_any _ (h.grow hS.bl) hs2 (by decide)) g).mono ?_
      rintro e w1 ⟨rfl, hb⟩
      replace hS := hS.step hb
      have q0 := hS.cell 2 0 rfl rfl
      have q1 := hS.cell 1 0 rfl rfl
      clear hb hs2
      go_wp2_with fail
      go_ret2
      exact ⟨_, rfl, by rw [H.out]; exact World.ownsRow_nil _ _ _ _, hS.bl⟩
set_option maxHeartbeats 1000000 in
set_option maxRecDepth 100000 in
theorem implDisjointCount (f t : Int) (w : World) (h : NetIs w A n c A' m d xs fs) :
    Calls Try.prog 30 #[.agg #[.slice A n c, .slice A' m d], .int .i64 f, .int .i64 t] w fun e w' => e = .returned (.tuple #[.int .i64 ((mcL xs fs f t).length : Nat), .bool (mcB xs fs f t)]) ∧ Below w.heap.size w w' := by
  have hS := (Led.nil w).blk_ w.heap.size rfl 27 #[.slice A n c, .slice A' m d]
  go_enter Try.func30, Try.ntmps30
  go_wp2_with fail
  refine (implMinimumCut f t _ (h.grow hS.bl)).mono ?_
  rintro e w1 ⟨v, rfl, ho, hb⟩
  obtain ⟨A1, c1, rfl, _⟩ := ho.form
  have HZ := hid (bl_then hS.bl hb)
  clear ho hb hS
  go_wp2_with fail
  go_ret2
  exact ⟨rfl, HZ.out⟩
end
end Go.Proofs.Ytfepilpllfiegaa
/- Small functions of the laws, walked: a number held in a list, equal lists and routes and networks, nodes apart, a list without one place. Conditions: as each states. -/
namespace Go.Proofs.Ytfepilpllfiegaa
open Go.RowKit
section
variable {α : Type} {A A' : Option Addr} {n c c' : Nat} {xs : List Int} {B B' : Nat}
set_option maxRecDepth 100000 in
theorem vHas_any (s : Int) (w : World) (hA : Sees elInt w B A n xs) (hn : n ≤ maxLen) :
    Calls Try.prog 21 #[.slice A n c, .int .i64 s] w fun e w' => e = .returned (.bool (hasB xs s)) ∧ w = w' := by
  unfold maxLen at hn
  go_enter Try.func21, Try.ntmps21
  go_wp2
  go_loop [5] (fun i => ∃ k : Nat, k ≤ n ∧ i = .int .i64 k ∧ Hid (noneTo xs s k)) (fun i => n - (intOf i).toNat)
  case atStart => exact ⟨0, Nat.zero_le _, rfl, noneTo_zero⟩
  case round =>
    obtain ⟨k, hk, rfl, hno⟩ := hrel
    by_cases hlt : k < n
    · obtain ⟨b, o, rfl, _, hx⟩ := hA.at_ hlt
      obtain ⟨x, hxk⟩ : ∃ x, xs[k]? = some x := ⟨xs[k]'(by rw [hA.len]; exact hlt), List.getElem?_eq_getElem _⟩
      have hc := hx k x hxk 0 _ rfl
      simp only [elInt, Nat.mul_one, Nat.add_zero] at hc
      clear hx
      by_cases heq : x = s
      · subst heq
        have HF : Hid (hasB xs x = true) := hasB_iff.2 (List.mem_of_getElem? hxk)
        clear hxk
        go_wp2
        go_ret
        exact ⟨by rw [HF.out]; rfl, rfl⟩
      · have hne : (x == s) = false := by simp; exact heq
        have HN := hid (noneTo_succ hno hxk heq)
        clear hxk hno
        go_wp2
        go_round
        case rel => exact ⟨k + 1, by omega, by go_num, HN⟩
        case measure => simp [intOf]; omega
    · have HF : Hid (hasB xs s = false) := by
        unfold Hid
        cases g : hasB xs s
        · rfl
        · exact absurd (hasB_iff.1 g) (noneTo_not hA.len (by obtain rfl : k = n := (by omega); exact hno.out))
      go_wp2
      go_ret
      exact ⟨by rw [HF.out]; rfl, rfl⟩
set_option maxRecDepth 100000 in
theorem vInts_same (w : World) (hA : Sees elInt w B A n xs) (hA' : Sees elInt w B' A' n xs) (hn : n ≤ 1048576) :
    Calls Try.prog 20 #[.slice A n c, .slice A' n c'] w fun e w' => e = .returned (.bool true) ∧ Below w.heap.size w w' := by
  go_enter Try.func20, Try.ntmps20
  go_wp2
  go_loopw [5] (fun i wr => ∃ k q : Nat, k ≤ n ∧ i = .int .i64 k ∧ wr = w.drewN q) (fun i _ => n - (intOf i).toNat)
  case atStart => exact ⟨0, 0, Nat.zero_le _, rfl, rfl⟩
  case round =>
    obtain ⟨k, q, hk, rfl, rfl⟩ := hrel
    by_cases hlt : k < n
    · obtain ⟨b, o, rfl, _, hc⟩ := hA.at_ hlt
      obtain ⟨b', o', rfl, _, hc'⟩ := hA'.at_ hlt
      obtain ⟨x, hxk⟩ : ∃ x, xs[k]? = some x := ⟨xs[k]'(by rw [hA.len]; exact hlt), List.getElem?_eq_getElem _⟩
      have h1 := hc k x hxk 0 _ rfl
      have h2 := hc' k x hxk 0 _ rfl
      simp only [elInt, Nat.mul_one, Nat.add_zero] at h1 h2
      clear hc hc' hxk
      have i1 : (k : Int) < (n : Int) := by omega
      go_wp2
      go_quiet (fail)
      go_wp2
      go_roundw
      case rel => exact ⟨k + 1, _, by omega, by go_num, rfl⟩
      case measure => simp [intOf]; omega
    · go_wp2
      go_ret
      exact ⟨rfl, bl_drewN (Below.refl _ _) _⟩
set_option maxHeartbeats 1000000 in
set_option maxRecDepth 100000 in
theorem vRoutes_same {B B' e1 e2 k : Nat} {R R2 : Option Addr} {ids : List Int} (s : Int) (w : World) (h1 : Sees elInt w B R k ids) (h2 : Sees elInt w B' R2 k ids) (hk : k ≤ 1048576) (hB : B ≤ w.heap.size) (hB' : B' ≤ w.heap.size) :
    Calls Try.prog 14 #[.agg #[.int .i64 s, .slice R k e1], .agg #[.int .i64 s, .slice R2 k e2]] w fun e w' => e = .returned (.bool true) ∧ Below w.heap.size w w' := by
  have hb0 : Below w.heap.size w ((w.alloc (.cells #[.int .i64 s, .slice R k e1] 35)).alloc (.cells #[.int .i64 s, .slice R2 k e2] 35)) := bl_alloc (bl_alloc (Below.refl _ _) _) _
  have k1 := (h1.more hB).grow hb0
  have k2 := (h2.more hB').grow hb0
  go_enter Try.func14, Try.ntmps14
  go_wp2_with fail
  refine (vInts_same _ k1 k2 hk).mono ?_
  rintro e w1 ⟨rfl, hb⟩
  have HB := hid (bl_then hb0 hb)
  clear hb k1 k2 hb0
  go_wp2_with fail
  go_ret
  exact ⟨rfl, HB.out⟩
set_option maxHeartbeats 1000000 in
set_option maxRecDepth 100000 in
theorem rApart_any {m d c2 : Nat} {V E : Option Addr} {xs : List ByteArray} {fs : List Fib} {l : List Int} (a b : Nat) (w : World) (h : NetIs w A n c E m d xs fs) (hv : Sees elInt w w.heap.size V l.length l) (hl : l.length ≤ 1048576) (hco : coB xs fs l = true) (ha : a < n) (hb : b < n) :
    Calls Try.prog 22 #[.agg #[.slice A n c, .slice E m d], .slice V l.length c2, .int .i64 (a : Int), .int .i64 (b : Int)] w fun e w' => e = .returned (.bool (decide (valL (compL (goneF l) fs n) a ≠ valL (compL (goneF l) fs n) b))) ∧ Below w.heap.size w w' := by
  have hb0 := bl_alloc (Below.refl w.heap.size w) (.cells #[.slice A n c, .slice E m d] 27)
  have HC := hid (implComponentsOf (c' := c2) _ (h.grow hb0) ((hv.grow hb0).more hb0.size) hl)
  have HB0 := hid hb0
  rw [hco] at HC
  have hL : coL xs fs l = compL (goneF l) fs n := by unfold coL; rw [hco, h.xlen]; rfl
  have hg : goodB xs fs = true := by unfold coB at hco; rw [Bool.and_eq_true] at hco; exact hco.1
  have hlen : (compL (goneF l) fs n).length = n := compL_len
  have hn8 := (goodB_bd hg).2.1
  rw [h.xlen] at hn8
  rw [hL] at HC
  obtain ⟨L, hLL⟩ : ∃ L, L = compL (goneF l) fs n := ⟨_, rfl⟩
  rw [← hLL] at HC hlen
  rw [← hLL]
  have HLEN := hid hlen
  clear h hv hco hL hLL hb0 hlen hg
  go_enter Try.func22, Try.ntmps22
  go_wp2_with fail
  refine HC.out.mono ?_
  rintro e w1 ⟨v, rfl, ho, hb1⟩
  have hS := (Led.nil w).owns_ (b0 := w.heap.size) (bl_then HB0.out hb1) ho (by simp) (by simp)
  obtain ⟨g, cc, rfl⟩ := hS.row_ 0 rfl HLEN.out (by omega)
  have va := hS.int_at 0 rfl (j := a) (by rw [HLEN.out]; exact ha)
  have vb := hS.int_at 0 rfl (j := b) (by rw [HLEN.out]; exact hb)
  have CA : ∀ w', Cls w1 w' → w'.cell? ⟨g, a, none⟩ = some (.int .i64 (valL L a)) := fun _ h => h.cell va
  have CB : ∀ w', Cls w1 w' → w'.cell? ⟨g, b, none⟩ = some (.int .i64 (valL L b)) := fun _ h => h.cell vb
  obtain ⟨x, hx⟩ : ∃ x, valL L a = x := ⟨_, rfl⟩
  obtain ⟨y, hy⟩ : ∃ y, valL L b = y := ⟨_, rfl⟩
  rw [hx] at va CA
  rw [hy] at vb CB
  have HXA := hid hx
  have HYB := hid hy
  have HS := hid hS.bl
  have hla : (a : Int) < (n : Int) := by omega
  have hlb : (b : Int) < (n : Int) := by omega
  have hla0 : (0 : Int) ≤ (a : Int) := by omega
  have hlb0 : (0 : Int) ≤ (b : Int) := by omega
  have HX : Hid ((x != y) = decide (x ≠ y)) := by
    unfold Hid
    by_cases e : x = y
    · subst e; simp
    · simp [e]
  clear hS va vb ho hb1 HC hx hy
  go_wp2_with fail
  refine region_cls (by kernel_rfl) (by kernel_rfl) ?_
  repeat (first
    | ((with_reducible refine quiet_pos ?_ (fun K hK => ?_))
       · rfl
       apply Exists.intro
       refine ⟨fun w' hw' => ?_, ?_⟩
       · go_simp
         with_reducible rfl
       simp only [Act.put, List.setIfInBounds_toArray, List.set_cons_zero, List.set_cons_succ]
       refine hK _ ?_; clear hK K)
    | ((with_reducible refine quiet_neg ?_ (fun K hK => ?_))
       · rfl
       simp only [Act.put, List.setIfInBounds_toArray, List.set_cons_zero, List.set_cons_succ]
       refine hK _ ?_; clear hK K))
  with_reducible refine wpQuiet_nil ?_
  intro wz hwz'
  go_wp2_with fail
  go_ret
  exact ⟨ret_bool (by rw [HX.out, HXA.out, HYB.out]), bl_then HS.out hwz'⟩

set_option maxHeartbeats 1000000 in
set_option maxRecDepth 100000 in
theorem vNetworks_same {B B' m d d' : Nat} {E E' : Option Addr} {xs : List ByteArray} {fs : List Fib} (w : World) (hA : Sees elStr w B A n xs) (hA' : Sees elStr w B' A' n xs) (hF : Sees elFib w B E m fs) (hF' : Sees elFib w B' E' m fs)
    (hB : B ≤ w.heap.size) (hB' : B' ≤ w.heap.size) (hn : n ≤ 1048576) (hm : m ≤ 1048576) :
    Calls Try.prog 52 #[.agg #[.slice A n c, .slice E m d], .agg #[.slice A' n c', .slice E' m d']] w fun e w' => e = .returned (.bool true) ∧ Below w.heap.size w w' := by
  have hS := ((Led.nil w).blk_ w.heap.size rfl 27 #[.slice A n c, .slice E m d]).blk_ (w.heap.size + 1) (by simp) 27 #[.slice A' n c', .slice E' m d']
  have HS := hid hS
  replace hA := hid (hA.more hB)
  replace hA' := hid (hA'.more hB')
  replace hF := hid (hF.more hB)
  replace hF' := hid (hF'.more hB')
  clear hS
  go_enter Try.func52, Try.ntmps52
  go_wp2_with fail
  go_loopw [5] (fun i wr => ∃ k : Nat, k ≤ n ∧ i = .int .i64 k ∧ Hid (Led w wr [tBlk (w.heap.size + 1) 27 #[.slice A' n c', .slice E' m d'], tBlk w.heap.size 27 #[.slice A n c, .slice E m d]])) (fun i _ => n - (intOf i).toNat)
  case atStart => exact ⟨0, Nat.zero_le _, rfl, HS⟩
  case round =>
    clear HS
    obtain ⟨k, hk, rfl, HS⟩ := hrel
    have p0 := HS.out.cell 1 0 rfl rfl
    have D0 : ∀ w', Cls wr w' → w'.cell? ⟨w.heap.size, 0, none⟩ = some (.slice A n c) := fun _ h => h.cell (HS.out.cell 1 0 rfl rfl)
    have D1 : ∀ w', Cls wr w' → w'.cell? ⟨w.heap.size + 1, 0, none⟩ = some (.slice A' n c') := fun _ h => h.cell (HS.out.cell 0 0 rfl rfl)
    by_cases hlt : k < n
    · obtain ⟨b, o, rfl, _, hc⟩ := (hA.out.grow HS.out.bl).at_ hlt
      obtain ⟨b', o', rfl, _, hc'⟩ := (hA'.out.grow HS.out.bl).at_ hlt
      obtain ⟨x, hxk⟩ := get_of (k := k) hA.out.len hlt
      have f0 := hc k x hxk 0 _ rfl
      have f1 := hc' k x hxk 0 _ rfl
      simp only [elStr, Nat.mul_one, Nat.add_zero] at f0 f1
      have F0 : ∀ w', Cls wr w' → w'.cell? ⟨b, o + k, none⟩ = some (.string x) := fun _ h => h.cell f0
      have F1 : ∀ w', Cls wr w' → w'.cell? ⟨b', o' + k, none⟩ = some (.string x) := fun _ h => h.cell f1
      have iz : (k : Int) < (n : Int) := by omega
      have ie : (x.toList == x.toList) = true := beq_self_eq_true _
      clear hc hc' f0 f1 hxk
      go_wp2_with fail
      refine region_cls (by kernel_rfl) (by kernel_rfl) ?_
      repeat (first
        | ((with_reducible refine quiet_pos ?_ (fun K hK => ?_))
           · rfl
           apply Exists.intro
           refine ⟨fun w' hw' => ?_, ?_⟩
           · go_simp
             with_reducible rfl
           simp only [Act.put, List.setIfInBounds_toArray, List.set_cons_zero, List.set_cons_succ]
           refine hK _ ?_; clear hK K)
        | ((with_reducible refine quiet_neg ?_ (fun K hK => ?_))
           · rfl
           simp only [Act.put, List.setIfInBounds_toArray, List.set_cons_zero, List.set_cons_succ]
           refine hK _ ?_; clear hK K))
      with_reducible refine wpQuiet_nil ?_
      intro wz hwz'
      have HS1 := hid (HS.out.step hwz')
      clear HS D0 D1 F0 F1 hwz' p0
      go_wp2
      go_roundw
      case rel => exact ⟨k + 1, by omega, by go_num, HS1⟩
      case measure => simp [intOf]; omega
    · have iz : ¬ ((k : Int) < (n : Int)) := by omega
      clear D0 D1
      go_wp2_with fail
      go_loopw [6] (fun i wr => ∃ k : Nat, k ≤ m ∧ i = .int .i64 k ∧ Hid (Led w wr [tBlk (w.heap.size + 1) 27 #[.slice A' n c', .slice E' m d'], tBlk w.heap.size 27 #[.slice A n c, .slice E m d]])) (fun i _ => m - (intOf i).toNat)
      case atStart => exact ⟨0, Nat.zero_le _, rfl, HS⟩
      case round =>
        clear HS p0
        obtain ⟨k, hk, rfl, HS⟩ := hrel
        have p0 := HS.out.cell 1 1 rfl rfl
        have D0 : ∀ w', Cls wr w' → w'.cell? ⟨w.heap.size, 1, none⟩ = some (.slice E m d) := fun _ h => h.cell (HS.out.cell 1 1 rfl rfl)
        have D1 : ∀ w', Cls wr w' → w'.cell? ⟨w.heap.size + 1, 1, none⟩ = some (.slice E' m d') := fun _ h => h.cell (HS.out.cell 0 1 rfl rfl)
        by_cases hlt : k < m
        · obtain ⟨b, o, rfl, _, hc⟩ := (hF.out.grow HS.out.bl).at_ hlt
          obtain ⟨b', o', rfl, _, hc'⟩ := (hF'.out.grow HS.out.bl).at_ hlt
          obtain ⟨f, hfk⟩ := get_of (k := k) hF.out.len hlt
          have T0 : ∀ w', Cls wr w' → w'.cell? ⟨b, o + k * 4, none⟩ = some (.int .i64 f.a) := fun _ h => h.cell (hc k f hfk 0 _ rfl)
          have T1 : ∀ w', Cls wr w' → w'.cell? ⟨b, o + k * 4 + 1, none⟩ = some (.int .i64 f.b) := fun _ h => h.cell (hc k f hfk 1 _ rfl)
          have T2 : ∀ w', Cls wr w' → w'.cell? ⟨b, o + k * 4 + 2, none⟩ = some (.int .i64 f.len) := fun _ h => h.cell (hc k f hfk 2 _ rfl)
          have T3 : ∀ w', Cls wr w' → w'.cell? ⟨b, o + k * 4 + 3, none⟩ = some (.int .i64 f.risk) := fun _ h => h.cell (hc k f hfk 3 _ rfl)
          have S0 : ∀ w', Cls wr w' → w'.cell? ⟨b', o' + k * 4, none⟩ = some (.int .i64 f.a) := fun _ h => h.cell (hc' k f hfk 0 _ rfl)
          have S1 : ∀ w', Cls wr w' → w'.cell? ⟨b', o' + k * 4 + 1, none⟩ = some (.int .i64 f.b) := fun _ h => h.cell (hc' k f hfk 1 _ rfl)
          have S2 : ∀ w', Cls wr w' → w'.cell? ⟨b', o' + k * 4 + 2, none⟩ = some (.int .i64 f.len) := fun _ h => h.cell (hc' k f hfk 2 _ rfl)
          have S3 : ∀ w', Cls wr w' → w'.cell? ⟨b', o' + k * 4 + 3, none⟩ = some (.int .i64 f.risk) := fun _ h => h.cell (hc' k f hfk 3 _ rfl)
          have iz : (k : Int) < (m : Int) := by omega
          clear hc hc' hfk
          go_wp2_with fail
          refine region_cls (by kernel_rfl) (by kernel_rfl) ?_
          repeat (first
            | ((with_reducible refine quiet_pos ?_ (fun K hK => ?_))
               · rfl
               apply Exists.intro
               refine ⟨fun w' hw' => ?_, ?_⟩
               · go_simp
                 with_reducible rfl
               simp only [Act.put, List.setIfInBounds_toArray, List.set_cons_zero, List.set_cons_succ]
               refine hK _ ?_; clear hK K)
            | ((with_reducible refine quiet_neg ?_ (fun K hK => ?_))
               · rfl
               simp only [Act.put, List.setIfInBounds_toArray, List.set_cons_zero, List.set_cons_succ]
               refine hK _ ?_; clear hK K))
          with_reducible refine wpQuiet_nil ?_
          intro wz hwz'
          have HS1 := hid (HS.out.step hwz')
          clear HS D0 D1 T0 T1 T2 T3 S0 S1 S2 S3 hwz' p0
          go_wp2
          go_roundw
          case rel => exact ⟨k + 1, by omega, by go_num, HS1⟩
          case measure => simp [intOf]; omega
        · have iz : ¬ ((k : Int) < (m : Int)) := by omega
          clear D0 D1
          go_wp2
          go_ret
          exact ⟨rfl, HS.out.bl⟩

theorem Sees.backG {α : Type} {E : El α} {w : World} {B b o n k : Nat} {l : List α} (h : Sees E w B (some ⟨b, o, none⟩) n l) (hz : E.sz = 1) (hk : k ≤ n) : Sees E w B (some ⟨b, o + k, none⟩) (n - k) (l.drop k) := by
  refine ⟨by rw [List.length_drop, h.1], ?_⟩
  rcases h.2 with h0 | ⟨b', o', e, hb, hc⟩
  · exact .inl (by omega)
  · injection e with e
    injection e with e1 e2
    subst e1 e2
    refine .inr ⟨b, _, rfl, hb, fun j x hx i u hu => ?_⟩
    rw [List.getElem?_drop] at hx
    have h1 := hc (k + j) x hx i u hu
    rw [hz] at h1 ⊢
    have e : o + (k + j) * 1 + i = o + k + j * 1 + i := by omega
    rw [← e]; exact h1
set_option maxHeartbeats 1000000 in
set_option maxRecDepth 100000 in
theorem rWithout_any {i : Nat} (w : World) (hA : Sees elInt w w.heap.size A n xs) (hnc : n ≤ c) (hn : n ≤ 1048576) (hi : i < n) :
    Calls Try.prog 31 #[.slice A n c, .int .i64 (i : Int)] w fun e w' => ∃ A1 c1, e = .returned (.slice A1 (n - 1) c1) ∧ Owns elInt w' w.heap.size 3 (.slice A1 (n - 1) c1) (xs.take i ++ xs.drop (i + 1)) ∧ Below w.heap.size w w' := by
  obtain ⟨j0, hj, hy0, hy1, hy2⟩ := info_parts int_info
  have HN := hid hA
  have hlf := hA.len
  obtain ⟨b, o, rfl, -, -⟩ := hA.at_ hi
  have hW := Led.nil w
  obtain ⟨q, hq⟩ : ∃ q, q = i + 1 := ⟨_, rfl⟩
  have i0 : (0 : Int) ≤ (i : Int) := by omega
  have i1 : (i : Int) ≤ (n : Int) := by omega
  have i2 : (q : Int) ≤ (n : Int) := by omega
  have i3 : (0 : Int) ≤ (q : Int) := by omega
  have i4 : (i : Int) ≤ (c : Int) := by omega
  have i5 : (q : Int) ≤ (c : Int) := by omega
  have iw : IntKind.i64.wrap ((i : Int) + 1) = (q : Int) := by rw [IntWalk.i64_in _ (by omega)]; omega
  have hnc2 : (n : Int) ≤ (c : Int) := by omega
  have HTl : Hid ((xs.take i).length = i) := by unfold Hid; rw [List.length_take]; omega
  have HDl : Hid ((xs.drop q).length = n - q) := by unfold Hid; rw [List.length_drop, hlf]
  have HE1 : Hid (i + (n - q) = n - 1) := by unfold Hid; omega
  have HQ := hid hq
  have him : i ≤ n := by omega
  have hi1 : q ≤ n := by omega
  have hres : (xs.take i ++ xs.drop (i + 1)) = xs.take i ++ xs.drop q := by rw [hq]
  rw [hres]
  clear hA hlf hq hres
  by_cases hdk : c = q
  · subst hdk
    have HE2 : Hid (i + 0 = n - 1) := by have := HQ.out; unfold Hid; omega
    go_enter Try.func31, Try.ntmps31
    go_wp2_with fail
    refine wp_region_held_drew (S := fun w' => Led w w' []) (by kernel_rfl) (hW.step (Cls.drew _)) (fun hHeld => ?_)
    refine wpAnyH_take (i := 1) (oi := _) (v := ?_) rfl (by kernel_rfl) (by kernel_rfl) (by kernel_rfl) (fun _ _ _ h => h) (Or.inl ⟨by rfl, ?_⟩) (by assumption) ?_
    rotate_left
    · intro w hSw; go_simp; with_reducible rfl
    simp only [Act.put, List.getElem_toArray, List.getElem_cons_zero, List.getElem_cons_succ, List.setIfInBounds_toArray, List.set_cons_zero, List.set_cons_succ]
    refine wpAnyH_take (i := 2) (oi := _) (v := ?_) rfl (by kernel_rfl) (by kernel_rfl) (by kernel_rfl) (fun _ _ _ h => h) (Or.inl ⟨by rfl, ?_⟩) (by assumption) ?_
    rotate_left
    · intro w hSw; go_simp; with_reducible rfl
    simp only [Act.put, List.getElem_toArray, List.getElem_cons_zero, List.getElem_cons_succ, List.setIfInBounds_toArray, List.set_cons_zero, List.set_cons_succ]
    refine wpAnyH_take (i := 3) (oi := _) (v := ?_) rfl (by kernel_rfl) (by kernel_rfl) (by kernel_rfl) (fun _ _ _ h => h) (Or.inl ⟨by rfl, ?_⟩) (by assumption) ?_
    rotate_left
    · intro w hSw; go_simp; with_reducible rfl
    simp only [Act.put, List.getElem_toArray, List.getElem_cons_zero, List.getElem_cons_succ, List.setIfInBounds_toArray, List.set_cons_zero, List.set_cons_succ]
    refine wpAnyH_take (i := 5) (oi := _) (v := ?_) rfl (by kernel_rfl) (by kernel_rfl) (by kernel_rfl) (fun _ _ _ h => h) (Or.inl ⟨by rfl, ?_⟩) (by assumption) ?_
    rotate_left
    · intro w hSw; go_simp; with_reducible rfl
    simp only [Act.put, List.getElem_toArray, List.getElem_cons_zero, List.getElem_cons_succ, List.setIfInBounds_toArray, List.set_cons_zero, List.set_cons_succ]
    refine wpAnyH_take (i := 6) (oi := _) (v := ?_) rfl (by kernel_rfl) (by kernel_rfl) (by kernel_rfl) (fun _ _ _ h => h) (Or.inl ⟨by rfl, ?_⟩) (by assumption) ?_
    rotate_left
    · intro w hSw; go_simp; with_reducible rfl
    simp only [Act.put, List.getElem_toArray, List.getElem_cons_zero, List.getElem_cons_succ, List.setIfInBounds_toArray, List.set_cons_zero, List.set_cons_succ]
    refine wpAnyH_take (i := 7) (oi := _) (v := ?_) rfl (by kernel_rfl) (by kernel_rfl) (by kernel_rfl) (fun _ _ _ h => h) (Or.inl ⟨by rfl, ?_⟩) (by assumption) ?_
    rotate_left
    · intro w hSw; go_simp; with_reducible rfl
    simp only [Act.put, List.getElem_toArray, List.getElem_cons_zero, List.getElem_cons_succ, List.setIfInBounds_toArray, List.set_cons_zero, List.set_cons_succ]
    refine wpAnyH_take (i := 8) (oi := _) (v := ?_) rfl (by kernel_rfl) (by kernel_rfl) (by kernel_rfl) (fun _ _ _ h => h) (Or.inl ⟨by rfl, ?_⟩) (by assumption) ?_
    rotate_left
    · intro w hSw; go_simp; with_reducible rfl
    simp only [Act.put, List.getElem_toArray, List.getElem_cons_zero, List.getElem_cons_succ, List.setIfInBounds_toArray, List.set_cons_zero, List.set_cons_succ]
    refine wpAnyH_ready (rs := [0]) (by kernel_rfl) (by simp) ?_
    refine AllReadyH.cons rfl (fun K hK => ?_) AllReadyH.nil
    have a1 := (hW.empty elInt 3 w.heap.size rfl w.heap.size (Nat.le_refl _)).step (Cls.drew _)
    go_simp
    go_wp2_with fail
    refine hK.out _ _ (a1.drop 1) (fun hHeld => ?_)
    clear hK K
    try simp only [Act.put, List.getElem_toArray, List.getElem_cons_zero, List.getElem_cons_succ, List.setIfInBounds_toArray, List.set_cons_zero, List.set_cons_succ]
    refine wpAnyH_ready (rs := [4]) (by kernel_rfl) (by simp) ?_
    refine AllReadyH.cons rfl (fun K hK => ?_) AllReadyH.nil
    refine step_append_led rfl _ _ 33 rfl a1 0 rfl Try.underlying33 hj hy0 hy1 (by rw [hy2]; decide) rfl rfl rfl ((HN.out.grow a1.bl).take him) (by simp; omega) a1.bl.size ?_
    intro B1 b1 v1 h1
    simp only [List.length_nil, Nat.zero_add, List.nil_append] at h1 ⊢
    refine hK.out _ _ (h1.drop 1) (fun hHeld => ?_)
    clear hK K
    try simp only [Act.put, List.getElem_toArray, List.getElem_cons_zero, List.getElem_cons_succ, List.setIfInBounds_toArray, List.set_cons_zero, List.set_cons_succ]
    refine wpAnyH_ready (rs := [9]) (by kernel_rfl) (by simp) ?_
    refine AllReadyH.cons rfl (fun K hK => ?_) AllReadyH.nil
    refine step_append_led rfl _ _ 33 rfl h1 0 rfl Try.underlying33 hj hy0 hy1 (by rw [hy2]; decide) rfl rfl rfl ((show Sees elInt _ 0 _ _ (xs.drop c) from by have h0 : xs.drop c = [] := List.drop_of_length_le (by have := HN.out.len; omega); rw [h0]; exact Sees.nil elInt _ 0 _)) (by rw [HTl.out]; omega) h1.bl.size ?_
    intro B2 b2 v2 h2
    rw [HTl.out, HE2.out] at h2
    rw [HTl.out, HE2.out]
    refine hK.out _ _ (h2.drop 1) (fun hHeld => ?_)
    clear hK K
    try simp only [Act.put, List.getElem_toArray, List.getElem_cons_zero, List.getElem_cons_succ, List.setIfInBounds_toArray, List.set_cons_zero, List.set_cons_succ]
    refine wpAnyH_take (i := 10) (oi := _) (v := ?_) rfl (by kernel_rfl) (by kernel_rfl) (by kernel_rfl) (fun _ _ _ h => h) (Or.inl ⟨by rfl, ?_⟩) (by assumption) ?_
    rotate_left
    · intro w hSw; go_simp; with_reducible rfl
    simp only [Act.put, List.getElem_toArray, List.getElem_cons_zero, List.getElem_cons_succ, List.setIfInBounds_toArray, List.set_cons_zero, List.set_cons_succ]
    have HE := hid h2
    clear h1 h2 hHeld
    refine wpAnyH_done (by kernel_rfl) ?_ _
    go_wp2_with fail
    go_ret
    exact ⟨B2, b2, rfl, HE.out.own 0 rfl, HE.out.bl⟩
  · skip
    go_enter Try.func31, Try.ntmps31
    go_wp2_with fail
    refine wp_region_held_drew (S := fun w' => Led w w' []) (by kernel_rfl) (hW.step (Cls.drew _)) (fun hHeld => ?_)
    refine wpAnyH_take (i := 1) (oi := _) (v := ?_) rfl (by kernel_rfl) (by kernel_rfl) (by kernel_rfl) (fun _ _ _ h => h) (Or.inl ⟨by rfl, ?_⟩) (by assumption) ?_
    rotate_left
    · intro w hSw; go_simp; with_reducible rfl
    simp only [Act.put, List.getElem_toArray, List.getElem_cons_zero, List.getElem_cons_succ, List.setIfInBounds_toArray, List.set_cons_zero, List.set_cons_succ]
    refine wpAnyH_take (i := 2) (oi := _) (v := ?_) rfl (by kernel_rfl) (by kernel_rfl) (by kernel_rfl) (fun _ _ _ h => h) (Or.inl ⟨by rfl, ?_⟩) (by assumption) ?_
    rotate_left
    · intro w hSw; go_simp; with_reducible rfl
    simp only [Act.put, List.getElem_toArray, List.getElem_cons_zero, List.getElem_cons_succ, List.setIfInBounds_toArray, List.set_cons_zero, List.set_cons_succ]
    refine wpAnyH_take (i := 3) (oi := _) (v := ?_) rfl (by kernel_rfl) (by kernel_rfl) (by kernel_rfl) (fun _ _ _ h => h) (Or.inl ⟨by rfl, ?_⟩) (by assumption) ?_
    rotate_left
    · intro w hSw; go_simp; with_reducible rfl
    simp only [Act.put, List.getElem_toArray, List.getElem_cons_zero, List.getElem_cons_succ, List.setIfInBounds_toArray, List.set_cons_zero, List.set_cons_succ]
    refine wpAnyH_take (i := 5) (oi := _) (v := ?_) rfl (by kernel_rfl) (by kernel_rfl) (by kernel_rfl) (fun _ _ _ h => h) (Or.inl ⟨by rfl, ?_⟩) (by assumption) ?_
    rotate_left
    · intro w hSw; go_simp; with_reducible rfl
    simp only [Act.put, List.getElem_toArray, List.getElem_cons_zero, List.getElem_cons_succ, List.setIfInBounds_toArray, List.set_cons_zero, List.set_cons_succ]
    refine wpAnyH_take (i := 6) (oi := _) (v := ?_) rfl (by kernel_rfl) (by kernel_rfl) (by kernel_rfl) (fun _ _ _ h => h) (Or.inl ⟨by rfl, ?_⟩) (by assumption) ?_
    rotate_left
    · intro w hSw; go_simp; with_reducible rfl
    simp only [Act.put, List.getElem_toArray, List.getElem_cons_zero, List.getElem_cons_succ, List.setIfInBounds_toArray, List.set_cons_zero, List.set_cons_succ]
    refine wpAnyH_take (i := 7) (oi := _) (v := ?_) rfl (by kernel_rfl) (by kernel_rfl) (by kernel_rfl) (fun _ _ _ h => h) (Or.inl ⟨by rfl, ?_⟩) (by assumption) ?_
    rotate_left
    · intro w hSw; go_simp; with_reducible rfl
    simp only [Act.put, List.getElem_toArray, List.getElem_cons_zero, List.getElem_cons_succ, List.setIfInBounds_toArray, List.set_cons_zero, List.set_cons_succ]
    refine wpAnyH_take (i := 8) (oi := _) (v := ?_) rfl (by kernel_rfl) (by kernel_rfl) (by kernel_rfl) (fun _ _ _ h => h) (Or.inl ⟨by rfl, ?_⟩) (by assumption) ?_
    rotate_left
    · intro w hSw; go_simp; with_reducible rfl
    simp only [Act.put, List.getElem_toArray, List.getElem_cons_zero, List.getElem_cons_succ, List.setIfInBounds_toArray, List.set_cons_zero, List.set_cons_succ]
    refine wpAnyH_ready (rs := [0]) (by kernel_rfl) (by simp) ?_
    refine AllReadyH.cons rfl (fun K hK => ?_) AllReadyH.nil
    have a1 := (hW.empty elInt 3 w.heap.size rfl w.heap.size (Nat.le_refl _)).step (Cls.drew _)
    go_simp
    go_wp2_with fail
    refine hK.out _ _ (a1.drop 1) (fun hHeld => ?_)
    clear hK K
    try simp only [Act.put, List.getElem_toArray, List.getElem_cons_zero, List.getElem_cons_succ, List.setIfInBounds_toArray, List.set_cons_zero, List.set_cons_succ]
    refine wpAnyH_ready (rs := [4]) (by kernel_rfl) (by simp) ?_
    refine AllReadyH.cons rfl (fun K hK => ?_) AllReadyH.nil
    refine step_append_led rfl _ _ 33 rfl a1 0 rfl Try.underlying33 hj hy0 hy1 (by rw [hy2]; decide) rfl rfl rfl ((HN.out.grow a1.bl).take him) (by simp; omega) a1.bl.size ?_
    intro B1 b1 v1 h1
    simp only [List.length_nil, Nat.zero_add, List.nil_append] at h1 ⊢
    refine hK.out _ _ (h1.drop 1) (fun hHeld => ?_)
    clear hK K
    try simp only [Act.put, List.getElem_toArray, List.getElem_cons_zero, List.getElem_cons_succ, List.setIfInBounds_toArray, List.set_cons_zero, List.set_cons_succ]
    refine wpAnyH_ready (rs := [9]) (by kernel_rfl) (by simp) ?_
    refine AllReadyH.cons rfl (fun K hK => ?_) AllReadyH.nil
    refine step_append_led rfl _ _ 33 rfl h1 0 rfl Try.underlying33 hj hy0 hy1 (by rw [hy2]; decide) rfl rfl rfl ((HN.out.grow h1.bl).backG rfl hi1) (by rw [HTl.out]; omega) h1.bl.size ?_
    intro B2 b2 v2 h2
    rw [HTl.out, HE1.out] at h2
    rw [HTl.out, HE1.out]
    refine hK.out _ _ (h2.drop 1) (fun hHeld => ?_)
    clear hK K
    try simp only [Act.put, List.getElem_toArray, List.getElem_cons_zero, List.getElem_cons_succ, List.setIfInBounds_toArray, List.set_cons_zero, List.set_cons_succ]
    refine wpAnyH_take (i := 10) (oi := _) (v := ?_) rfl (by kernel_rfl) (by kernel_rfl) (by kernel_rfl) (fun _ _ _ h => h) (Or.inl ⟨by rfl, ?_⟩) (by assumption) ?_
    rotate_left
    · intro w hSw; go_simp; with_reducible rfl
    simp only [Act.put, List.getElem_toArray, List.getElem_cons_zero, List.getElem_cons_succ, List.setIfInBounds_toArray, List.set_cons_zero, List.set_cons_succ]
    have HE := hid h2
    clear h1 h2 hHeld
    refine wpAnyH_done (by kernel_rfl) ?_ _
    go_wp2_with fail
    go_ret
    exact ⟨B2, b2, rfl, HE.out.own 0 rfl, HE.out.bl⟩
end
end Go.Proofs.Ytfepilpllfiegaa
