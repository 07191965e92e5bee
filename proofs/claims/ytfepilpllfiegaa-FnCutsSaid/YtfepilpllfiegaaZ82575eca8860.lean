/- Lemmas and walks that the claim rests on, laid together. Conditions: none. -/
import Derived.Test.YtfepilpllfiegaaZc3e33f13110d
import Derived.ArgAppend
import Derived.Lib.SliceRun
import Derived.Test.YtfepilpllfiegaaZ0bc57a82efa3
import Derived.Test.YtfepilpllfiegaaZ4da14b5b2d83
import Derived.Test.YtfepilpllfiegaaZ040390a462fa
import Derived.Test.YtfepilpllfiegaaZe24f7bba17f6
import Derived.Deep.RegionHeld3
import Derived.Test.YtfepilpllfiegaaZe82dcdd4b7b2
/- slices.Clone at numbers, walked. Conditions: at most 1048576 numbers. -/
namespace Go.Proofs.Ytfepilpllfiegaa
open Go.RowKit
set_option maxHeartbeats 1000000 in
set_option maxRecDepth 100000 in
theorem cloneI_any {B n c : Nat} {A : Option Addr} {xs : List Int} (w : World) (hA : Sees elInt w B A n xs) (hn : n ≤ 1048576) :
    Calls Try.prog 99 #[.slice A n c] w fun e w' => ∃ v, e = .returned v ∧ Owns elInt w' w.heap.size 3 v xs ∧ Below w.heap.size w w' := by
  have qT : ∀ (w : World) (a : Option Addr), (binOp .eql 33 (.slice a n c) (.slice none 0 0)).run Try.prog w = .ok (.bool a.isNone) w := fun w a => Lib.run_eql_slice_nil w _ _ a n c 0 0 Try.underlying33
  rcases A with _ | ad
  · have h0 : xs = [] := by
      rcases hA.2 with h | ⟨b, o, h, _⟩
      · exact List.eq_nil_of_length_eq_zero (by rw [hA.len, h])
      · cases h
    subst h0
    go_enter Try.func99, Try.ntmps99
    go_wp2
    go_ret
    exact ⟨_, rfl, World.ownsRow_nil _ _ _ _, Below.refl _ _⟩
  · obtain ⟨i0, hi, hz0, hz1, hz2⟩ := info_parts int_info
    have hS := (Led.nil w).empty elInt 3 w.heap.size rfl w.heap.size (Nat.le_refl _)
    go_enter Try.func99, Try.ntmps99
    go_wp2_with (first
      | (at_builtin; refine wpList_append_led rfl _ _ 33 rfl hS 0 rfl Try.underlying33 hi hz0 hz1 (by rw [hz2]; decide) rfl rfl rfl (hA.grow hS.bl) (by simp; omega) (by simp) ?_)
      | go_in)
    intro A' c' w1 hS1
    go_wp2
    go_ret
    exact ⟨_, rfl, hS1.own 0 rfl, hS1.bl⟩
end Go.Proofs.Ytfepilpllfiegaa
/- fewest, MinimumCut, DisjointCount of the program, walked. Conditions: as each states. -/
namespace Go.Proofs.Ytfepilpllfiegaa
open Go.RowKit
section
variable {n : Nat} {p : List Int → Bool} {H : FuncId} {hcap : Array Value}
set_option maxHeartbeats 1000000 in
set_option maxRecDepth 100000 in
/-- The visiting closure of fewest. -/
theorem fewest1_any (hcall : ∀ args wr, (callFunc H args).run Try.prog wr = .ok (.enter H args) wr) {L : List Int} {A : Option Addr} {c gb gh : Nat} {v0 : Value} (w : World) (hg : Blk w gb 33 #[v0]) (hh : Blk w gh 103 #[.func (.func H) #[] hcap]) (hne : gb ≠ gh)
    (hs : Sees elInt w w.heap.size A L.length L) (hA : ∀ b o, A = some ⟨b, o, none⟩ → b ≠ gb) (hl : L.length ≤ 1000)
    (hH : ∀ w', Touch (fun b => b = gb) w w' → Sees elInt w' w'.heap.size A L.length L → Calls Try.prog H (#[.slice A L.length c] ++ hcap) w' fun e w2 => e = .returned (.bool (p L)) ∧ Below w'.heap.size w' w2) :
    Calls Try.prog 137 #[.slice A L.length c, .pointer (some ⟨gb, 0, none⟩), .pointer (some ⟨gh, 0, none⟩)] w fun e w' => e = .returned (.bool (p L)) ∧ Touch (fun b => b = gb) w w' ∧ ∃ v, Blk w' gb 33 #[v] ∧ Owns elInt w' w.heap.size 3 v L := by
  have HS := hid hs
  have HH := hid hH
  have HA := hid hA
  have glt := hg.lt
  have HGH := hid hh
  clear hs hH hA
  go_enter Try.func137, Try.ntmps137
  go_wp2_with fail
  refine (cloneI_any _ HS.out (by omega)).mono ?_
  rintro e w1 ⟨v, rfl, ho, hb⟩
  obtain ⟨A1, c1, hv1, _⟩ := ho.form
  subst hv1
  have hg1 := hg.below hb hg.lt
  have c0 := hg1.cell 0
  simp at c0
  have f0 := hg1.frozen 0
  have ht1 : Touch (fun b => b = gb) w (w1.setCell ⟨gb, 0, none⟩ (.slice A1 L.length c1)) := (Touch.of_below hb).trans (Touch.set (S := fun b => b = gb) w1 (p := ⟨gb, 0, none⟩) rfl (.slice A1 L.length c1))
  have hg2 := hg1.set 0 (.slice A1 L.length c1)
  have e2 : (#[v0] : Array Value).setIfInBounds 0 (.slice A1 L.length c1) = #[.slice A1 L.length c1] := rfl
  rw [e2] at hg2
  have hh2 := HGH.out.touch ht1 (fun e => hne e.symm)
  have d1 := hh2.cell 0
  simp at d1
  have ho2 : Owns elInt (w1.setCell ⟨gb, 0, none⟩ (.slice A1 L.length c1)) w.heap.size 3 (.slice A1 L.length c1) L := ho.far glt _
  have HG2 := hid hg2
  have HO2 := hid ho2
  have HT1 := hid ht1
  clear ho hg1 hg2 ho2 ht1 hh2 e2
  go_wp2_with fail
  refine (HH.out _ HT1.out (HS.out.apart HT1.out HA.out)).mono ?_
  rintro e w3 ⟨rfl, hb3⟩
  have HB3 := hid hb3
  clear hb3 c0 f0 d1
  go_wp2_with fail
  go_ret
  exact ⟨rfl, HT1.out.then_ HB3.out, _, HG2.out.below HB3.out HG2.out.lt, HO2.out.below HB3.out⟩
set_option maxHeartbeats 2000000 in
set_option maxRecDepth 100000 in
theorem fewest_any (hcall : ∀ args wr, (callFunc H args).run Try.prog wr = .ok (.enter H args) wr) (hn : n ≤ 1000) (w : World)
    (hH : ∀ (w' : World) (L : List Int) (A : Option Addr) (c : Nat), Cls w w' → Sees elInt w' w'.heap.size A L.length L → lowL n L → L.length ≤ n → Calls Try.prog H (#[.slice A L.length c] ++ hcap) w' fun e w2 => e = .returned (.bool (p L)) ∧ Below w'.heap.size w' w2) :
    Calls Try.prog 81 #[.int .i64 n, .func (.func H) #[] hcap] w fun e w' => ∃ v, e = .returned (.tuple #[v, .bool (fewL p n).isSome]) ∧ Owns elInt w' w.heap.size 3 v ((fewL p n).getD []) ∧ Below w.heap.size w w' := by
  obtain ⟨f, hf⟩ : ∃ f : Nat → Option (List Int), f = fun c => chooseL p n c 0 [] := ⟨_, rfl⟩
  have HF : Hid (fewL p n = firstO f 0 (n + 1)) := by rw [hf]; rfl
  have HFK : Hid (∀ k, f k = chooseL p n k 0 []) := fun k => by rw [hf]
  have HH := hid hH
  have iw : IntKind.i64.wrap ((n : Int) + 1) = ((n + 1 : Nat) : Int) := by rw [IntWalk.i64_in _ (by omega)]; omega
  have hS0 := ((Led.nil w).blk_ w.heap.size rfl 103 #[.func (.func H) #[] hcap]).empty elInt 3 (w.heap.size + 1) (by simp) w.heap.size (by omega)
  have hS := hS0.blk_ (w.heap.size + 1 + 1) (by simp) 33 #[.slice (some ⟨w.heap.size + 1, 0, none⟩) 0 0]
  clear hf hH hS0
  go_enter Try.func81, Try.ntmps81
  go_wp2_with fail
  generalize ((w.alloc (.cells #[.func (.func H) #[] hcap] 103)).alloc (.cells #[] 3)).alloc (.cells #[.slice (some ⟨w.heap.size + 1, 0, none⟩) 0 0] 33) = W1 at *
  obtain ⟨gb, hgb⟩ : ∃ gb, w.heap.size + 1 + 1 = gb := ⟨_, rfl⟩
  rw [hgb] at hS ⊢
  have hgg : gb ≠ w.heap.size := by omega
  have hg0 : Blk W1 gb 33 #[.slice (some ⟨w.heap.size + 1, 0, none⟩) 0 0] := hS.get 0 rfl
  have hh0 : Blk W1 w.heap.size 103 #[.func (.func H) #[] hcap] := hS.get 2 rfl
  have hbl := hS.bl
  have hle : w.heap.size ≤ gb := by omega
  have hW1 := hbl.size
  have hlt1 := hg0.lt
  have hcls : ∀ w', Touch (fun b => b = gb) W1 w' → Below w.heap.size w w' := fun w' ht => hbl.trans (ht.below (fun k hk => by subst hk; exact hle) hW1)
  have V : Visit n p gb (fun w' => Touch (fun b => b = gb) W1 w' ∧ ∃ v, Blk w' gb 33 #[v]) (fun L w' => ∃ v, Blk w' gb 33 #[v] ∧ Owns elInt w' W1.heap.size 3 v L) 137 #[.pointer (some ⟨gb, 0, none⟩), .pointer (some ⟨w.heap.size, 0, none⟩)] := by
    refine ⟨fun _ _ => by rfl, fun w' w2 h hb => ⟨h.1.then_ hb, ?_⟩, fun w' h => ?_, fun w' L A c hI hs hA hL hln hlc => ?_⟩
    · obtain ⟨v, hv⟩ := h.2
      exact ⟨v, hv.below hb hv.lt⟩
    · obtain ⟨v, hv⟩ := h.2
      exact hv.lt
    · obtain ⟨ht, v, hv⟩ := hI
      have h1 := fewest1_any hcall (c := c) (p := p) w' hv (hh0.touch ht (fun e => hgg e.symm)) hgg hs hA (by omega) (fun w2 ht2 hs2 => HH.out w2 L A c (hcls w2 (ht.trans ht2)) hs2 hL hln)
      refine h1.mono ?_
      rintro e w3 ⟨rfl, ht3, v3, hg3, ho3⟩
      exact ⟨rfl, ⟨ht.trans ht3, v3, hg3⟩, ⟨v3, hg3, ho3.base ht.size⟩, ht3⟩
  have HI0 : Hid (Touch (fun b => b = gb) W1 W1 ∧ ∃ v, Blk W1 gb 33 #[v]) := ⟨Touch.refl _ _, _, hg0⟩
  have HCLS := hid hcls
  clear hS hg0 hh0 hbl hle hgb hcls HH
  go_loopw [12] (fun i wr => ∃ k : Nat, k ≤ n + 1 ∧ i = .int .i64 k ∧ Hid (Touch (fun b => b = gb) W1 wr ∧ ∃ v, Blk wr gb 33 #[v]) ∧ Hid (firstO f 0 (n + 1) = firstO f k (n + 1 - k))) (fun i _ => n + 1 - (intOf i).toNat)
  case atStart => exact ⟨0, Nat.zero_le _, rfl, HI0, rfl⟩
  case round =>
    clear HI0
    obtain ⟨k, hk, rfl, HI, HE⟩ := hrel
    by_cases hlt : k < n + 1
    · have ik : (k : Int) < (n : Int) + 1 := by omega
      have HC := hid (choices_any V hn k 0 [] none 0 wr (by simp; omega) (by decide) HI.out (Sees.nil elInt _ _ _) (fun b o e => by cases e) (fun x hx => by cases hx) (Nat.le_refl _))
      go_wp2_with fail
      refine HC.out.mono ?_
      rintro e w4 ⟨rfl, hI4, ht4, hO4⟩
      have HI4 := hid hI4
      have HO4 := hid hO4
      clear hI4 ht4 hO4 HC HI
      cases gx : chooseL p n k 0 [] with
      | none =>
        have HE2 : Hid (firstO f 0 (n + 1) = firstO f (k + 1) (n + 1 - (k + 1))) := by
          unfold Hid
          rw [HE.out, show n + 1 - k = (n + 1 - (k + 1)) + 1 by omega]
          exact firstO_none (by rw [HFK.out, gx])
        clear gx HO4 HE
        simp only [Option.isSome_none]
        go_wp2
        refine ⟨?_, by simp [intOf]; omega⟩
        first
          | exact ⟨k + 1, by omega, by go_num, HI4, HE2⟩
          | ((repeat apply Exists.intro); exact ⟨⟨k + 1, by omega, by go_num, HI4, HE2⟩, rfl⟩)
      | some R =>
        have HE2 : Hid (fewL p n = some R) := by
          unfold Hid
          rw [HF.out, HE.out, show n + 1 - k = (n + 1 - (k + 1)) + 1 by omega]
          exact firstO_some (by rw [HFK.out, gx])
        obtain ⟨v, hv, ho⟩ := HO4.out R gx
        have c0 := hv.cell 0
        simp at c0
        have HO5 := hid ho
        clear gx HO4 HE hv ho
        simp only [Option.isSome_some]
        go_wp2
        go_ret2
        exact ⟨_, by rw [HE2.out]; rfl, by rw [HE2.out]; exact HO5.out.base hW1, HCLS.out _ HI4.out.1⟩
    · have hk0 : n + 1 - k = 0 := by omega
      have HE2 : Hid (fewL p n = none) := by unfold Hid; rw [HF.out, HE.out, hk0]; rfl
      have ik : ¬ ((k : Int) < (n : Int) + 1) := by omega
      clear hk0 HE
      go_wp2
      go_ret2
      exact ⟨_, by rw [HE2.out]; rfl, by rw [HE2.out]; exact World.ownsRow_nil _ _ _ _, HCLS.out _ HI.out.1⟩
end
end Go.Proofs.Ytfepilpllfiegaa
/- MinimumCut, DisjointCount of the program, walked. Conditions: none. -/
namespace Go.Proofs.Ytfepilpllfiegaa
open Go.RowKit
theorem nodesB_two (n : Nat) (x y : Int) : nodesB n [x, y] = (inB 0 ((n : Int) - 1) x && inB 0 ((n : Int) - 1) y) := by simp [nodesB]
section
variable {n c m d : Nat} {A A' : Option Addr} {xs : List ByteArray} {fs : List Fib}
set_option maxHeartbeats 2000000 in
set_option maxRecDepth 100000 in
theorem minCut1_any {B k cc gN gF gT f t : Nat} {G : Option Addr} {l : List Int} (w : World) (h : NetIs w A n c A' m d xs fs) (hN : Blk w gN 27 #[.slice A n c, .slice A' m d]) (hF : Blk w gF 3 #[.int .i64 (f : Int)]) (hT : Blk w gT 3 #[.int .i64 (t : Int)])
    (hs : Sees elInt w B G k l) (hk : k ≤ 1048576) (he : endsB n fs) (hf : f < n) (ht : t < n) :
    Calls Try.prog 82 #[.slice G k cc, .pointer (some ⟨gN, 0, none⟩), .pointer (some ⟨gF, 0, none⟩), .pointer (some ⟨gT, 0, none⟩)] w fun e w' => e = .returned (.bool (cutP fs n f t l)) ∧ Below w.heap.size w w' := by
  have q0 := hN.cell 0
  have q1 := hN.cell 1
  simp at q0 q1
  obtain ⟨y, hy⟩ : ∃ y, y = compL (goneF l) fs n := ⟨_, rfl⟩
  have HP : Hid (cutP fs n f t l = !(valL y f == valL y t)) := by rw [hy]; rfl
  rw [HP.out]
  have HF := hid hF
  have HT := hid hT
  have hlc : Hid (y.length = n) := by rw [hy]; exact compL_len
  have HY := hid hy
  clear hy
  have iF : (f : Int) < (n : Int) := by omega
  have iT : (t : Int) < (n : Int) := by omega
  go_enter Try.func82, Try.ntmps82
  go_wp2_with fail
  refine (components_any _ h hs hk he (by omega)).mono ?_
  rintro e w1 ⟨v, rfl, ho, hb⟩
  obtain ⟨g, cV, rfl⟩ := ho.splitg compL_len (show 0 < n by omega)
  have hS := (Led.nil w).owns hb ho
  have hf1 := HF.out.below hb HF.out.lt
  have ht1 := HT.out.below hb HT.out.lt
  have c0 := hf1.cell 0
  have c1 := ht1.cell 0
  simp at c0 c1
  rw [← HY.out] at hS
  have F0 : ∀ w', Cls w1 w' → w'.cell? ⟨gF, 0, none⟩ = some (.int .i64 (f : Int)) := fun _ h => h.cell c0
  have T0 : ∀ w', Cls w1 w' → w'.cell? ⟨gT, 0, none⟩ = some (.int .i64 (t : Int)) := fun _ h => h.cell c1
  have V0 : ∀ w', Cls w1 w' → w'.cell? ⟨g, f, none⟩ = some (.int .i64 (valL y f)) := fun _ h => h.cell (hS.int_at 0 rfl (j := f) (by rw [hlc.out]; omega))
  have V1 : ∀ w', Cls w1 w' → w'.cell? ⟨g, t, none⟩ = some (.int .i64 (valL y t)) := fun _ h => h.cell (hS.int_at 0 rfl (j := t) (by rw [hlc.out]; omega))
  clear ho hb c0 c1
  go_wp2_with fail
  refine region_cls (by kernel_rfl) (by kernel_rfl) ?_
  repeat (first
    | ((with_reducible refine quiet_pos ?_ (fun K hK => ?_))
       · rfl
       apply Exists.intro
       refine ⟨fun w' hw' => ?_, ?_⟩
       · go_simp
         with_reducible rfl
       simp only [Act.put, List.setIfInBounds_toArray, List.set_cons_zero, List.set_cons_succ]
       refine hK _ ?_; clear hK K)
    | ((with_reducible refine quiet_neg ?_ (fun K hK => ?_))
       · rfl
       simp only [Act.put, List.setIfInBounds_toArray, List.set_cons_zero, List.set_cons_succ]
       refine hK _ ?_; clear hK K))
  with_reducible refine wpQuiet_nil ?_
  intro wz hwz'
  have HZ := hid (hS.step hwz').bl
  clear hS F0 T0 V0 V1 hwz' q0 q1
  go_wp2
  go_ret
  exact ⟨rfl, HZ.out⟩
set_option maxHeartbeats 2000000 in
set_option maxRecDepth 100000 in
theorem implMinimumCut (f t : Int) (w : World) (h : NetIs w A n c A' m d xs fs) :
    Calls Try.prog 28 #[.agg #[.slice A n c, .slice A' m d], .int .i64 f, .int .i64 t] w fun e w' => ∃ v, e = .returned (.tuple #[v, .bool (mcB xs fs f t)]) ∧ Owns elInt w' w.heap.size 3 v (mcL xs fs f t) ∧ Below w.heap.size w w' := by
  have hS := ((((Led.nil w).blk_ w.heap.size rfl 27 #[.slice A n c, .slice A' m d]).blk_ (w.heap.size + 1) (by simp) 3 #[.int .i64 f]).blk_ (w.heap.size + 1 + 1) (by simp) 3 #[.int .i64 t]).blk_ (w.heap.size + 1 + 1 + 1) (by simp) 3 #[.int .i64 f, .int .i64 t]
  have hs2 : Sees elInt ((((w.alloc (.cells #[.slice A n c, .slice A' m d] 27)).alloc (.cells #[.int .i64 f] 3)).alloc (.cells #[.int .i64 t] 3)).alloc (.cells #[.int .i64 f, .int .i64 t] 3)) (w.heap.size + 1 + 1 + 1 + 1) (some ⟨w.heap.size + 1 + 1 + 1, 0, none⟩) 2 [f, t] := by
    refine ⟨rfl, .inr ⟨_, _, rfl, Nat.lt_succ_self _, fun k x hx j u hu => ?_⟩⟩
    have hj : j = 0 := by have := (List.getElem?_eq_some_iff.1 hu).1; simp [elInt] at this; omega
    subst hj
    have hu' : Value.int .i64 x = u := by simpa [elInt] using hu
    subst hu'
    rcases k with _ | _ | k
    · simp at hx; subst hx; exact hS.cell 0 0 rfl rfl
    · simp at hx; subst hx; exact hS.cell 0 1 rfl rfl
    · simp at hx
  have HB : Hid (mcB xs fs f t = ((goodB xs fs && nodesB n [f, t]) && !(f == t))) := by unfold Hid mcB; rw [nodesB_two, h.xlen, Bool.and_assoc (goodB xs fs)]
  cases g : (goodB xs fs && nodesB n [f, t])
  · have HF : Hid (mcB xs fs f t = false) := by unfold Hid; rw [HB.out, g]; rfl
    have H : Hid (mcL xs fs f t = []) := by unfold Hid mcL; rw [HF.out]; rfl
    rw [HF.out]
    go_enter Try.func28, Try.ntmps28
    go_wp2_with fail
    refine (calls_bool (isNode_any _ (h.grow hS.bl) hs2 (by decide)) g).mono ?_
    rintro e w1 ⟨rfl, hb⟩
    go_wp2_with fail
    go_ret2
    exact ⟨_, rfl, by rw [H.out]; exact World.ownsRow_nil _ _ _ _, bl_then hS.bl hb⟩
  · cases g2 : (f == t)
    · have HF : Hid (mcB xs fs f t = true) := by unfold Hid; rw [HB.out, g, g2]; rfl
      obtain ⟨hg, hf, ht, hne⟩ := mcB_parts HF.out
      obtain ⟨he, hn0, hn8, hm14⟩ := good_parts h hg
      rw [h.xlen] at hf ht
      obtain ⟨f', rfl⟩ : ∃ f' : Nat, f = (f' : Int) := ⟨f.toNat, by omega⟩
      obtain ⟨t', rfl⟩ : ∃ t' : Nat, t = (t' : Int) := ⟨t.toNat, by omega⟩
      have hlf := h.flen
      have H : Hid (mcL xs fs (f' : Int) (t' : Int) = cutL fs n f' t') := by unfold Hid mcL; rw [HF.out, h.xlen]; rfl
      have HW := hid (few_cut (fs := fs) (n := n) (f := f') (t := t') (by omega) (by omega) (by omega))
      rw [hlf] at HW
      rw [HF.out]
      have HN := hid h
      have HE := hid he
      have g3 : ((f' : Int) == (t' : Int)) = false := g2
      clear h he hlf
      go_enter Try.func28, Try.ntmps28
      go_wp2_with fail
      refine (calls_bool (isNode_any _ (HN.out.grow hS.bl) hs2 (by decide)) g).mono ?_
      rintro e w1 ⟨rfl, hb⟩
      replace hS := hS.step hb
      have q0 := hS.cell 2 0 rfl rfl
      have q1 := hS.cell 1 0 rfl rfl
      have q2 := hS.cell 3 1 rfl rfl
      clear hb hs2
      have hBN : Blk w1 w.heap.size 27 #[.slice A n c, .slice A' m d] := hS.get 3 rfl
      have hBF : Blk w1 (w.heap.size + 1) 3 #[.int .i64 (f' : Int)] := hS.get 2 rfl
      have hBT : Blk w1 (w.heap.size + 1 + 1) 3 #[.int .i64 (t' : Int)] := hS.get 1 rfl
      have HFW := hid (fewest_any (n := m) (p := cutP fs n f' t') (H := 82) (hcap := #[.pointer (some ⟨w.heap.size, 0, none⟩), .pointer (some ⟨w.heap.size + 1, 0, none⟩), .pointer (some ⟨w.heap.size + 1 + 1, 0, none⟩)]) (fun _ _ => by rfl) (by omega) w1
        (fun w' L G cc hcl hs hL hLn => minCut1_any w' ((HN.out.grow hS.bl).grow hcl) (hBN.below hcl hBN.lt) (hBF.below hcl hBF.lt) (hBT.below hcl hBT.lt) hs (by omega) HE.out (by omega) (by omega)))
      rw [HW.out] at HFW
      clear hBN hBF hBT
      go_wp2_with fail
      refine HFW.out.mono ?_
      rintro e w2 ⟨v, rfl, ho, hb2⟩
      have HO := hid (ho.base (base' := w.heap.size) hS.bl.size)
      have HZ := hid (bl_then hS.bl hb2)
      clear ho hb2 q0 q1 q2 hS
      go_wp2_with fail
      go_ret2
      exact ⟨_, rfl, by rw [H.out]; exact HO.out, HZ.out⟩
    · have HF : Hid (mcB xs fs f t = false) := by unfold Hid; rw [HB.out, g2]; simp
      have H : Hid (mcL xs fs f t = []) := by unfold Hid mcL; rw [HF.out]; rfl
      rw [HF.out]
      go_enter Try.func28, Try.ntmps28
      go_wp2_with fail
      refine (calls_bool (isNode_any _ (h.grow hS.bl) hs2 (by decide)) g).mono ?_
      rintro e w1 ⟨rfl, hb⟩
      replace hS := hS.step hb
      have q0 := hS.cell 2 0 rfl rfl
      have q1 := hS.cell 1 0 rfl rfl
      clear hb hs2
      go_wp2_with fail
      go_ret2
      exact ⟨_, rfl, by rw [H.out]; exact World.ownsRow_nil _ _ _ _, hS.bl⟩
set_option maxHeartbeats 1000000 in
set_option maxRecDepth 100000 in
theorem implDisjointCount (f t : Int) (w : World) (h : NetIs w A n c A' m d xs fs) :
    Calls Try.prog 30 #[.agg #[.slice A n c, .slice A' m d], .int .i64 f, .int .i64 t] w fun e w' => e = .returned (.tuple #[.int .i64 ((mcL xs fs f t).length : Nat), .bool (mcB xs fs f t)]) ∧ Below w.heap.size w w' := by
  have hS := (Led.nil w).blk_ w.heap.size rfl 27 #[.slice A n c, .slice A' m d]
  go_enter Try.func30, Try.ntmps30
  go_wp2_with fail
  refine (implMinimumCut f t _ (h.grow hS.bl)).mono ?_
  rintro e w1 ⟨v, rfl, ho, hb⟩
  obtain ⟨A1, c1, rfl, _⟩ := ho.form
  have HZ := hid (bl_then hS.bl hb)
  clear ho hb hS
  go_wp2_with fail
  go_ret2
  exact ⟨rfl, HZ.out⟩
end
end Go.Proofs.Ytfepilpllfiegaa
/- Bridges of both sides, walked. Conditions: none. -/
namespace Go.Proofs.Ytfepilpllfiegaa
open Go.RowKit
section
variable {n c m d : Nat} {A A' : Option Addr} {xs : List ByteArray} {fs : List Fib}
theorem shl_one {j : Nat} (h : j < 20) : wrap64 ((2 : Int) ^ j) = ((2 ^ j : Nat) : Int) := by
  have e : ((2 : Int) ^ j) = ((2 ^ j : Nat) : Int) := by simp
  rw [e]
  have h62 : 2 ^ j < 4611686018427387904 := Nat.lt_trans (Nat.pow_lt_pow_right (by decide) h) (by decide)
  generalize 2 ^ j = y at *
  exact IntWalk.wrap64_in _ (by omega)
end
end Go.Proofs.Ytfepilpllfiegaa
/- The reference's minimum cut: l6Singles, l6Choose, l6Cut, l6Ends, walked. Conditions: as each states. -/
namespace Go.Proofs.Ytfepilpllfiegaa
open Go.RowKit
/-- The sets of single fibers, as numbers. -/
def singL (m : Nat) : List Int := (List.range m).map fun (j : Nat) => ((2 ^ j : Nat) : Int)
theorem singL_len (m : Nat) : (singL m).length = m := by simp [singL]
theorem singL_succ (m : Nat) : singL (m + 1) = singL m ++ [((2 ^ m : Nat) : Int)] := by simp [singL, List.range_succ]
theorem singL_get {m j : Nat} (h : j < m) : (singL m)[j]? = some ((2 ^ j : Nat) : Int) := by simp [singL, h]
theorem fromL_marks (N : Nat) : fromL N 0 = marks 0 N := by
  unfold fromL marks
  rw [Nat.sub_zero, ← List.range_eq_range']
  apply List.map_congr_left
  intro j _
  omega
theorem chooseS_len {q : Nat → Bool} {S : Nat → Nat} {N : Nat} : ∀ {k s M : Nat} {R : List Int}, chooseS q S N k s M = some R → R.length = k := by
  intro k
  induction k with
  | zero =>
    intro s M R h
    have h : (if q M then some [] else none) = some R := h
    split at h
    · injection h with h; subst h; rfl
    · cases h
  | succ k ih =>
    intro s M R h
    have h : firstO (fun i => (chooseS q S N k (i + 1) (M ||| S i)).map fun R => (i : Int) :: R) s (N - k - s) = some R := h
    have key : ∀ r j, firstO (fun i => (chooseS q S N k (i + 1) (M ||| S i)).map fun R => (i : Int) :: R) j r = some R → R.length = k + 1 := by
      intro r
      induction r with
      | zero => intro j h; cases h
      | succ r ihr =>
        intro j h
        cases hf : chooseS q S N k (j + 1) (M ||| S j) with
        | some x =>
          rw [firstO_some (x := (j : Int) :: x) (by rw [hf]; rfl)] at h
          injection h with h; subst h
          simp [ih hf]
        | none => rw [firstO_none (by rw [hf]; rfl)] at h; exact ihr (j + 1) h
    exact key _ _ h
section
variable {n c m d : Nat} {A A' : Option Addr} {xs : List ByteArray} {fs : List Fib}
set_option maxHeartbeats 2000000 in
set_option maxRecDepth 100000 in
theorem l6Singles_any (w : World) (_h : NetIs w A n c A' m d xs fs) (hm20 : m ≤ 20) :
    Calls Try.prog 85 #[.agg #[.slice A n c, .slice A' m d]] w fun e w' => ∃ v, e = .returned v ∧ Owns elInt w' w.heap.size 3 v (singL m) ∧ Below w.heap.size w w' := by
  obtain ⟨i0, hi, hz0, hz1, hz2⟩ := info_parts int_info
  have hS := ((Led.nil w).blk_ w.heap.size rfl 27 #[.slice A n c, .slice A' m d]).empty elInt 3 (w.heap.size + 1) (by simp) w.heap.size (by omega)
  have HS : Hid (Led w ((w.alloc (.cells #[.slice A n c, .slice A' m d] 27)).alloc (.cells #[] 3)) [tOwns elInt w.heap.size 3 (.slice (some ⟨w.heap.size + 1, 0, none⟩) 0 0) (singL 0), tBlk w.heap.size 27 #[.slice A n c, .slice A' m d]]) := hS
  clear hS
  go_enter Try.func85, Try.ntmps85
  go_wp2_with fail
  go_loopw [3, 4] (fun V i wr => ∃ k : Nat, k ≤ m ∧ i = .int .i64 k ∧ Hid (Led w wr [tOwns elInt w.heap.size 3 (V) (singL k), tBlk w.heap.size 27 #[.slice A n c, .slice A' m d]])) (fun _ i _ => m - (intOf i).toNat)
  case atStart => exact ⟨0, Nat.zero_le _, rfl, HS⟩
  case round =>
    clear HS
    obtain ⟨k, hk, rfl, HS⟩ := hrel
    have p0 := HS.out.cell 1 1 rfl rfl
    by_cases hlt : k < m
    · have hml := hid (singL_len k)
      obtain ⟨A1, c1, rfl, _⟩ := HS.out.form 0 rfl
      have HS2 := hid (HS.out.blk_ wr.heap.size rfl 3 #[.int .i64 ((2 ^ k : Nat) : Int)])
      have iu : IntKind.u64.wrap (k : Int) = (k : Int) := by rw [IntKind.wrap_u64]; omega
      have imn : min k 64 = k := by omega
      have HW := hid (shl_one (j := k) (by omega))
      have HM := hid (singL_succ k)
      clear HS
      go_wp2_with (first
        | (at_builtin; rw [HW.out]; refine wpList_append_led rfl _ _ 33 rfl HS2.out 1 rfl Try.underlying33 hi hz0 hz1 (by rw [hz2]; decide) rfl rfl rfl (show Sees elInt _ _ _ 1 [((2 ^ k : Nat) : Int)] from sees_new elInt _ _ _ _ rfl) (by rw [hml.out]; omega) HS2.out.bl.size ?_)
        | go_in)
      intro A2 c2 w2 hS3
      have HS3 := hid (hS3.drop 1)
      clear hS3 HS2 p0
      go_wp2
      go_roundw
      case rel => exact ⟨k + 1, by omega, by go_num, by rw [HM.out]; exact HS3⟩
      case measure => simp [intOf]; omega
    · have hkm : k = m := by omega
      subst hkm
      clear hlt
      go_wp2
      go_ret
      exact ⟨_, rfl, HS.out.own 0 rfl, HS.out.bl⟩
set_option maxHeartbeats 4000000 in
set_option maxRecDepth 100000 in
theorem l6Choose_any {N f t cG : Nat} {G : Option Addr} {ss : List Int} {S : Nat → Nat} (hN : ss.length = N) (hN30 : N ≤ 30) (hss : ∀ i, i < N → ss[i]? = some ((S i : Nat) : Int)) (hS20 : ∀ i, i < N → S i < 2 ^ 20) (he : endsB n fs) (hn0 : 0 < n) (hm20 : m ≤ 20) (hf : f < n) (ht : t < n) :
    ∀ (k s M : Nat) (w : World), k ≤ 40 → s ≤ 40 → M < 2 ^ 20 → NetIs w A n c A' m d xs fs → Sees elInt w w.heap.size G N ss →
    Calls Try.prog 138 #[.agg #[.slice A n c, .slice A' m d], .int .i64 f, .int .i64 t, .slice G N cG, .int .i64 s, .int .i64 k, .int .i64 M] w fun e w' => ∃ v, e = .returned (.tuple #[v, .bool (chooseS (cutQ fs n f t) S N k s M).isSome]) ∧ Owns elInt w' w.heap.size 3 v ((chooseS (cutQ fs n f t) S N k s M).getD []) ∧ Below w.heap.size w w' := by
  intro k
  induction k with
  | zero =>
    intro s M w _ _ hM h hG
    obtain ⟨b, hb⟩ : ∃ b, b = cutQ fs n f t M := ⟨_, rfl⟩
    have HR : Hid (chooseS (cutQ fs n f t) S N 0 s M = if b then some [] else none) := by rw [hb]; rfl
    obtain ⟨y, hy⟩ : ∃ y, y = compL (fun i => M.testBit i) fs n := ⟨_, rfl⟩
    have HB : Hid (b = (valL y f != valL y t)) := by rw [hb, hy]; rfl
    have hlc : Hid (y.length = n) := by rw [hy]; exact compL_len
    have HY := hid hy
    have hS := (Led.nil w).blk_ w.heap.size rfl 27 #[.slice A n c, .slice A' m d]
    have HN := hid h
    have iF : (f : Int) < (n : Int) := by omega
    have iT : (t : Int) < (n : Int) := by omega
    have q0 := hS.cell 0 0 rfl rfl
    have q1 := hS.cell 0 1 rfl rfl
    clear hb hy h hG
    go_enter Try.func138, Try.ntmps138
    go_wp2_with fail
    refine (labels_any M _ (HN.out.grow hS.bl) hM he hn0 hm20).mono ?_
    rintro e w1 ⟨v, rfl, ho, hb⟩
    obtain ⟨g, cV, rfl⟩ := ho.splitg compL_len hn0
    rw [← HY.out] at ho
    replace hS := hS.owns hb ho
    have V0 : ∀ w', Cls w1 w' → w'.cell? ⟨g, f, none⟩ = some (.int .i64 (valL y f)) := fun _ h => h.cell (hS.int_at 0 rfl (j := f) (by rw [hlc.out]; omega))
    have V1 : ∀ w', Cls w1 w' → w'.cell? ⟨g, t, none⟩ = some (.int .i64 (valL y t)) := fun _ h => h.cell (hS.int_at 0 rfl (j := t) (by rw [hlc.out]; omega))
    clear ho hb q0 q1
    go_wp2_with fail
    go_region_held3 (fun w' => Cls w1 w') (first | exact Cls.refl _ | exact Cls.drew _ | assumption | exact bl_alloc (by assumption) _ | exact bl_alloc (Cls.drew _) _ | exact (bl_alloc (Cls.refl _) _).drew) (fail)
    all_goals
      have hS2 := (hS.empty elInt 3 w1.heap.size rfl w.heap.size hS.bl.size).step ((Below.refl _ _).drew)
      have HZ := hid hS2
      clear hS2 V0 V1
      go_wp2
      go_ret2
      refine ⟨_, by rw [HR.out, HB.out]; cases (valL y f != valL y t) <;> rfl, ?_, HZ.out.bl⟩
      have e : (chooseS (cutQ fs n f t) S N 0 s M).getD [] = [] := by rw [HR.out]; cases b <;> rfl
      rw [e]
      exact HZ.out.own 0 rfl
  | succ k ih =>
    intro s M w hk hs hM h hG
    obtain ⟨i0, hi, hz0, hz1, hz2⟩ := info_parts int_info
    obtain ⟨ff, hff⟩ : ∃ ff : Nat → Option (List Int), ff = fun i => (chooseS (cutQ fs n f t) S N k (i + 1) (M ||| S i)).map fun R => (i : Int) :: R := ⟨_, rfl⟩
    have HR : Hid (chooseS (cutQ fs n f t) S N (k + 1) s M = firstO ff s (N - k - s)) := by rw [hff]; rfl
    have HFK : Hid (∀ i, ff i = (chooseS (cutQ fs n f t) S N k (i + 1) (M ||| S i)).map fun R => (i : Int) :: R) := fun i => by rw [hff]
    have hS := (Led.nil w).blk_ w.heap.size rfl 27 #[.slice A n c, .slice A' m d]
    have HN := hid h
    have HG := hid hG
    have HIH := hid ih
    have HSS := hid hss
    have HS20 := hid hS20
    have hz : (((k : Nat) : Int) + 1 == 0) = false := by simp; omega
    have HLN := hid hN
    have HS : Hid (Led w (w.alloc (.cells #[.slice A n c, .slice A' m d] 27)) [tBlk w.heap.size 27 #[.slice A n c, .slice A' m d]]) := hS
    clear hff h hG ih hS hss hS20 hN
    go_enter Try.func138, Try.ntmps138
    go_wp2_with fail
    go_loopw [17] (fun i wr => ∃ i' : Nat, s ≤ i' ∧ i' ≤ max s (N - k) ∧ i = .int .i64 i' ∧ Hid (Led w wr [tBlk w.heap.size 27 #[.slice A n c, .slice A' m d]]) ∧ Hid (firstO ff s (N - k - s) = firstO ff i' (N - k - i'))) (fun i _ => N - k - (intOf i).toNat)
    case atStart => exact ⟨s, Nat.le_refl _, by omega, rfl, HS, rfl⟩
    case round =>
      clear HS
      obtain ⟨i', hsi, hiN, rfl, HS, HE⟩ := hrel
      have iw0 : IntKind.i64.wrap ((i' : Int) + ((k : Int) + 1)) = (i' : Int) + ((k : Int) + 1) := IntWalk.i64_in _ (by omega)
      by_cases hlt : i' < N - k
      · have hc1 : decide ((i' : Int) + ((k : Int) + 1) ≤ (N : Int)) = true := decide_eq_true (by omega)
        have iw1 : IntKind.i64.wrap ((i' : Int) + 1) = (i' : Int) + 1 := IntWalk.i64_in _ (by omega)
        have iw2 : IntKind.i64.wrap (k : Int) = (k : Int) := IntWalk.i64_in _ (by omega)
        have ii : (i' : Int) < (N : Int) := by omega
        have hiN' : i' < N := by omega
        have hGs := HG.out.grow HS.out.bl
        obtain ⟨gb, go, rfl, _, hgc⟩ := hGs.at_ hiN'
        have e0 := hgc i' _ (HSS.out i' hiN') 0 _ rfl
        simp only [elInt, Nat.mul_one, Nat.add_zero] at e0
        have E0 : ∀ w', Cls wr w' → w'.cell? ⟨gb, go + i', none⟩ = some (.int .i64 ((S i' : Nat) : Int)) := fun _ h => h.cell e0
        have C0 : ∀ w', Cls wr w' → w'.cell? ⟨w.heap.size, 0, none⟩ = some (.slice A n c) := fun _ h => h.cell (HS.out.cell 0 0 rfl rfl)
        have C1 : ∀ w', Cls wr w' → w'.cell? ⟨w.heap.size, 1, none⟩ = some (.slice A' m d) := fun _ h => h.cell (HS.out.cell 0 1 rfl rfl)
        have hSi := HS20.out i' hiN'
        have HO := hid (bits_or_n hM hSi)
        have hMS : M ||| S i' < 2 ^ 20 := Nat.or_lt_two_pow hM hSi
        have HL := hid (fun w' (h : Cls wr w') => HS.out.step h)
        have HCX : Hid (∀ w', Cls wr w' → Calls Try.prog 138 #[.agg #[.slice A n c, .slice A' m d], .int .i64 f, .int .i64 t, .slice (some ⟨gb, go, none⟩) N cG, .int .i64 ((i' : Int) + 1), .int .i64 k, .int .i64 ((M ||| S i' : Nat) : Int)] w' fun e w2 => ∃ v, e = .returned (.tuple #[v, .bool (chooseS (cutQ fs n f t) S N k (i' + 1) (M ||| S i')).isSome]) ∧ Owns elInt w2 w'.heap.size 3 v ((chooseS (cutQ fs n f t) S N k (i' + 1) (M ||| S i')).getD []) ∧ Below w'.heap.size w' w2) := fun w' hw' =>
          HIH.out (i' + 1) (M ||| S i') w' (by omega) (by omega) hMS (HN.out.grow (HL.out w' hw').bl) ((HG.out.grow (HL.out w' hw').bl).more (HL.out w' hw').bl.size)
        clear hGs hgc e0
        go_wp2_with fail
        go_region_held3 (fun w' => Cls wr w') (first | exact Cls.refl _ | exact Cls.drew _ | assumption | exact Cls.next (by assumption) (by assumption))
          (first
            | (go_at_call 138; rw [HO.out]; have hcl := ‹Cls wr _›; refine (HCX.out _ (by assumption)).mono ?_; rintro e w' ⟨v, rfl, ho, hb⟩))
        have hL2 := (HL.out _ hcl).owns hb ho
        clear HL C0 C1 E0 HCX ho hb hcl HO
        generalize w' = W2 at *
        cases gx : chooseS (cutQ fs n f t) S N k (i' + 1) (M ||| S i') with
        | none =>
          have HE2 : Hid (firstO ff s (N - k - s) = firstO ff (i' + 1) (N - k - (i' + 1))) := by
            unfold Hid
            rw [HE.out, show N - k - i' = (N - k - (i' + 1)) + 1 by omega]
            exact firstO_none (by rw [HFK.out, gx]; rfl)
          have HS4 := hid (hL2.drop 1)
          clear gx HE hL2 HS
          simp only [Option.isSome_none]
          go_wp2
          refine ⟨?_, by simp [intOf]; omega⟩
          first
            | exact ⟨i' + 1, by omega, by omega, by go_num, HS4, HE2⟩
            | ((repeat apply Exists.intro); exact ⟨⟨i' + 1, by omega, by omega, by go_num, HS4, HE2⟩, rfl⟩)
        | some R =>
          have HE2 : Hid (chooseS (cutQ fs n f t) S N (k + 1) s M = some ((i' : Int) :: R)) := by
            unfold Hid
            rw [HR.out, HE.out, show N - k - i' = (N - k - (i' + 1)) + 1 by omega]
            exact firstO_some (by rw [HFK.out, gx]; rfl)
          rw [gx] at hL2
          have hRl : R.length ≤ 2000 := by
            have hlow := chooseS_len gx
            omega
          obtain ⟨A3, c3, rfl, _⟩ := hL2.form 0 rfl
          have HL3 := hid (hL2.single elInt (i' : Int) 3 W2.heap.size rfl w.heap.size hL2.bl.size)
          clear gx HE hL2 HS
          simp only [Option.isSome_some]
          go_wp2_with (first
            | (at_builtin; refine wpList_append_led rfl _ _ 33 rfl HL3.out 0 rfl Try.underlying33 hi hz0 hz1 (by rw [hz2]; decide) rfl rfl rfl (HL3.out.sees 1 rfl rfl) (by simp; omega) HL3.out.bl.size ?_)
            | go_in)
          intro A4 c4 w5 hS5
          have HS5 := hid hS5
          clear hS5 HL3
          go_wp2
          go_ret2
          exact ⟨_, by rw [HE2.out]; rfl, by rw [HE2.out]; exact HS5.out.own 0 rfl, HS5.out.bl⟩
      · have hk0 : N - k - i' = 0 := by omega
        have hc1 : decide ((i' : Int) + ((k : Int) + 1) ≤ (N : Int)) = false := decide_eq_false (by omega)
        have HE2 : Hid (chooseS (cutQ fs n f t) S N (k + 1) s M = none) := by unfold Hid; rw [HR.out, HE.out, hk0]; rfl
        have HS2 := hid (HS.out.empty elInt 3 wr.heap.size rfl w.heap.size HS.out.bl.size)
        clear hk0 HE HS
        go_wp2
        go_ret2
        exact ⟨_, by rw [HE2.out]; rfl, by rw [HE2.out]; exact HS2.out.own 0 rfl, HS2.out.bl⟩
set_option maxHeartbeats 2000000 in
set_option maxRecDepth 100000 in
theorem l6Cut_any {N f t cG : Nat} {G : Option Addr} {ss : List Int} {S : Nat → Nat} (hN : ss.length = N) (hN30 : N ≤ 30) (hss : ∀ i, i < N → ss[i]? = some ((S i : Nat) : Int)) (hS20 : ∀ i, i < N → S i < 2 ^ 20) (he : endsB n fs) (hn0 : 0 < n) (hm20 : m ≤ 20) (hf : f < n) (ht : t < n)
    (w : World) (h : NetIs w A n c A' m d xs fs) (hG : Sees elInt w w.heap.size G N ss) :
    Calls Try.prog 84 #[.agg #[.slice A n c, .slice A' m d], .int .i64 f, .int .i64 t, .slice G N cG] w fun e w' => ∃ v, e = .returned v ∧ Owns elInt w' w.heap.size 3 v (cutS (cutQ fs n f t) S N) ∧ Below w.heap.size w w' := by
  obtain ⟨i0, hi, hz0, hz1, hz2⟩ := info_parts int_info
  obtain ⟨ff, hff⟩ : ∃ ff : Nat → Option (List Int), ff = fun c => chooseS (cutQ fs n f t) S N c 0 0 := ⟨_, rfl⟩
  have HR : Hid (cutS (cutQ fs n f t) S N = (firstO ff 0 N).getD (marks 0 N)) := by unfold Hid cutS; rw [hff, fromL_marks]
  have HFK : Hid (∀ k, ff k = chooseS (cutQ fs n f t) S N k 0 0) := fun k => by rw [hff]
  have hS := (Led.nil w).blk_ w.heap.size rfl 27 #[.slice A n c, .slice A' m d]
  have HN := hid h
  have HG := hid hG
  have HCH := hid (l6Choose_any (c := c) (A := A) (d := d) (A' := A') (m := m) (xs := xs) (cG := cG) (G := G) hN hN30 hss hS20 he hn0 hm20 hf ht)
  have HS : Hid (Led w (w.alloc (.cells #[.slice A n c, .slice A' m d] 27)) [tBlk w.heap.size 27 #[.slice A n c, .slice A' m d]]) := hS
  clear hff h hG hS hss hS20 hN
  go_enter Try.func84, Try.ntmps84
  go_wp2_with fail
  go_loopw [9] (fun i wr => ∃ k : Nat, k ≤ N ∧ i = .int .i64 k ∧ Hid (Led w wr [tBlk w.heap.size 27 #[.slice A n c, .slice A' m d]]) ∧ Hid (firstO ff 0 N = firstO ff k (N - k))) (fun i _ => N - (intOf i).toNat)
  case atStart => exact ⟨0, Nat.zero_le _, rfl, HS, rfl⟩
  case round =>
    clear HS
    obtain ⟨k, hk, rfl, HS, HE⟩ := hrel
    by_cases hlt : k < N
    · have q0 := HS.out.cell 0 0 rfl rfl
      have q1 := HS.out.cell 0 1 rfl rfl
      have HC := hid (HCH.out k 0 0 wr (by omega) (by omega) (by decide) (HN.out.grow HS.out.bl) ((HG.out.grow HS.out.bl).more HS.out.bl.size))
      go_wp2_with fail
      refine HC.out.mono ?_
      rintro e w2 ⟨v, rfl, ho, hb⟩
      have hL2 := HS.out.owns hb ho
      clear ho hb q0 q1 HC
      cases gx : chooseS (cutQ fs n f t) S N k 0 0 with
      | none =>
        have HE2 : Hid (firstO ff 0 N = firstO ff (k + 1) (N - (k + 1))) := by
          unfold Hid
          rw [HE.out, show N - k = (N - (k + 1)) + 1 by omega]
          exact firstO_none (by rw [HFK.out, gx])
        have HS4 := hid (hL2.drop 1)
        clear gx HE hL2 HS
        simp only [Option.isSome_none]
        go_wp2
        refine ⟨?_, by simp [intOf]; omega⟩
        first
          | exact ⟨k + 1, by omega, by go_num, HS4, HE2⟩
          | ((repeat apply Exists.intro); exact ⟨⟨k + 1, by omega, by go_num, HS4, HE2⟩, rfl⟩)
      | some R =>
        have HE2 : Hid (cutS (cutQ fs n f t) S N = R) := by
          unfold Hid
          rw [HR.out, HE.out, show N - k = (N - (k + 1)) + 1 by omega, firstO_some (by rw [HFK.out, gx])]
          rfl
        rw [gx] at hL2
        have HL2 := hid hL2
        have hwr := HS.out.bl.size
        clear gx HE hL2 HS
        simp only [Option.isSome_some]
        go_wp2
        go_ret
        exact ⟨_, rfl, by rw [HE2.out]; exact (HL2.out.own 0 rfl).base hwr, HL2.out.bl⟩
    · have hkN : N - k = 0 := by omega
      have HE2 : Hid (cutS (cutQ fs n f t) S N = marks 0 N) := by unfold Hid; rw [HR.out, HE.out, hkN]; rfl
      have hSE := HS.out.empty elInt 3 wr.heap.size rfl w.heap.size HS.out.bl.size
      have HS1 : Hid (Led w (wr.alloc (.cells #[] 3)) [tOwns elInt w.heap.size 3 (.slice (some ⟨wr.heap.size, 0, none⟩) 0 0) (marks 0 0), tBlk w.heap.size 27 #[.slice A n c, .slice A' m d]]) := hSE
      clear hkN HE HS hSE
      go_wp2_with fail
      go_loopw [12, 13] (fun V i wr => ∃ j : Nat, j ≤ N ∧ i = .int .i64 j ∧ Hid (Led w wr [tOwns elInt w.heap.size 3 (V) (marks 0 j), tBlk w.heap.size 27 #[.slice A n c, .slice A' m d]])) (fun _ i _ => N - (intOf i).toNat)
      case atStart => exact ⟨0, Nat.zero_le _, rfl, HS1⟩
      case round =>
        clear HS1
        obtain ⟨j, hj, rfl, HS⟩ := hrel
        by_cases hlt2 : j < N
        · have hml := hid (marks_len 0 j)
          obtain ⟨A1, c1, rfl, _⟩ := HS.out.form 0 rfl
          have HS2 := hid (HS.out.blk_ wr.heap.size rfl 3 #[.int .i64 j])
          have HM : Hid (marks 0 (j + 1) = marks 0 j ++ [(j : Int)]) := by unfold Hid; rw [marks_succ]; simp
          clear HS
          go_wp2_with (first
            | (at_builtin; refine wpList_append_led rfl _ _ 33 rfl HS2.out 1 rfl Try.underlying33 hi hz0 hz1 (by rw [hz2]; decide) rfl rfl rfl (show Sees elInt _ _ _ 1 [(j : Int)] from sees_new elInt _ _ _ _ rfl) (by rw [hml.out]; omega) HS2.out.bl.size ?_)
            | go_in)
          intro A2 c2 w2 hS3
          have HS3 := hid (hS3.drop 1)
          clear hS3 HS2
          go_wp2
          go_roundw
          case rel => exact ⟨j + 1, by omega, by go_num, by rw [HM.out]; exact HS3⟩
          case measure => simp [intOf]; omega
        · have hjN : j = N := by omega
          subst hjN
          clear hlt2
          go_wp2
          go_ret
          exact ⟨_, rfl, by rw [HE2.out]; exact HS.out.own 0 rfl, HS.out.bl⟩
set_option maxHeartbeats 2000000 in
set_option maxRecDepth 100000 in
theorem l6Ends_any (f t : Int) (w : World) (h : NetIs w A n c A' m d xs fs) :
    Calls Try.prog 83 #[.agg #[.slice A n c, .slice A' m d], .int .i64 f, .int .i64 t] w fun e w' => e = .returned (.bool (mcB xs fs f t)) ∧ Below w.heap.size w w' := by
  have hS := (Led.nil w).blk_ w.heap.size rfl 27 #[.slice A n c, .slice A' m d]
  have hn := h.nle
  have HK : Hid (mcB xs fs f t = (((goodB xs fs && inB 0 ((n : Int) - 1) f) && inB 0 ((n : Int) - 1) t) && !(f == t))) := by unfold Hid mcB; rw [h.xlen]
  have iw : IntKind.i64.wrap ((n : Int) - 1) = (n : Int) - 1 := IntWalk.i64_in _ (by omega)
  rw [HK.out]
  clear HK
  cases g : goodB xs fs
  · go_enter Try.func83, Try.ntmps83
    go_wp2_with fail
    refine (goodN _ (h.grow hS.bl)).mono ?_
    rintro e w1 ⟨rfl, hb⟩
    rw [g]
    go_wp2_with fail
    go_ret
    exact ⟨rfl, bl_then hS.bl hb⟩
  · cases g2 : inB 0 ((n : Int) - 1) f
    · go_enter Try.func83, Try.ntmps83
      go_wp2_with fail
      refine (goodN _ (h.grow hS.bl)).mono ?_
      rintro e w1 ⟨rfl, hb⟩
      rw [g]
      replace hS := hS.step hb
      have q0 := hS.cell 0 0 rfl rfl
      clear hb
      go_wp2_with fail
      refine (l1In_any _ _ _ _).mono ?_
      rintro e w3 ⟨rfl, rfl⟩
      rw [g2]
      go_wp2_with fail
      go_ret
      exact ⟨rfl, hS.bl⟩
    · cases g3 : inB 0 ((n : Int) - 1) t
      · go_enter Try.func83, Try.ntmps83
        go_wp2_with fail
        refine (goodN _ (h.grow hS.bl)).mono ?_
        rintro e w1 ⟨rfl, hb⟩
        rw [g]
        replace hS := hS.step hb
        have q0 := hS.cell 0 0 rfl rfl
        clear hb
        go_wp2_with fail
        refine (l1In_any _ _ _ _).mono ?_
        rintro e w3 ⟨rfl, rfl⟩
        rw [g2]
        go_wp2_with fail
        refine (l1In_any _ _ _ _).mono ?_
        rintro e w3 ⟨rfl, rfl⟩
        rw [g3]
        go_wp2_with fail
        go_ret
        exact ⟨rfl, hS.bl⟩
      · go_enter Try.func83, Try.ntmps83
        go_wp2_with fail
        refine (goodN _ (h.grow hS.bl)).mono ?_
        rintro e w1 ⟨rfl, hb⟩
        rw [g]
        replace hS := hS.step hb
        have q0 := hS.cell 0 0 rfl rfl
        clear hb
        go_wp2_with fail
        refine (l1In_any _ _ _ _).mono ?_
        rintro e w3 ⟨rfl, rfl⟩
        rw [g2]
        go_wp2_with fail
        refine (l1In_any _ _ _ _).mono ?_
        rintro e w3 ⟨rfl, rfl⟩
        rw [g3]
        go_wp2_with fail
        go_ret
        exact ⟨by cases hft : (f == t) <;> simp_all [bne], hS.bl⟩
set_option maxHeartbeats 4000000 in
set_option maxRecDepth 100000 in
theorem specMinimumCut (f t : Int) (w : World) (h : NetIs w A n c A' m d xs fs) :
    Calls Try.prog 29 #[.agg #[.slice A n c, .slice A' m d], .int .i64 f, .int .i64 t] w fun e w' => ∃ v, e = .returned (.tuple #[v, .bool (mcB xs fs f t)]) ∧ Owns elInt w' w.heap.size 3 v (mcL xs fs f t) ∧ Below w.heap.size w w' := by
  have hS := (Led.nil w).blk_ w.heap.size rfl 27 #[.slice A n c, .slice A' m d]
  cases g : mcB xs fs f t
  · have H : Hid (mcL xs fs f t = []) := by unfold Hid mcL; rw [g]; rfl
    go_enter Try.func29, Try.ntmps29
    go_wp2_with fail
    refine (l6Ends_any f t _ (h.grow hS.bl)).mono ?_
    rintro e w1 ⟨rfl, hb⟩
    rw [g]
    replace hS := hS.step hb
    clear hb
    have HS1 := hid (hS.empty elInt 3 w1.heap.size rfl w.heap.size hS.bl.size)
    clear hS
    go_wp2_with fail
    go_ret2
    exact ⟨_, rfl, by rw [H.out]; exact HS1.out.own 0 rfl, HS1.out.bl⟩
  · obtain ⟨hg, hf, ht, hne⟩ := mcB_parts g
    obtain ⟨he, hn0, hn8, hm14⟩ := good_parts h hg
    rw [h.xlen] at hf ht
    obtain ⟨f', rfl⟩ : ∃ f' : Nat, f = (f' : Int) := ⟨f.toNat, by omega⟩
    obtain ⟨t', rfl⟩ : ∃ t' : Nat, t = (t' : Int) := ⟨t.toNat, by omega⟩
    have hlf := h.flen
    have H : Hid (mcL xs fs (f' : Int) (t' : Int) = cutS (cutQ fs n f' t') (fun i => 2 ^ i) m) := by unfold Hid mcL cutL; rw [g, h.xlen, hlf]; rfl
    have HN := hid h
    have HE := hid he
    have HG := hid g
    have hS20 : ∀ i, i < m → 2 ^ i < 2 ^ 20 := fun i hi => Nat.pow_lt_pow_right (by decide) (by omega)
    clear h he hlf hg g
    go_enter Try.func29, Try.ntmps29
    go_wp2_with fail
    refine (l6Ends_any _ _ _ (HN.out.grow hS.bl)).mono ?_
    rintro e w1 ⟨rfl, hb⟩
    rw [HG.out]
    replace hS := hS.step hb
    clear hb
    have C0 : ∀ w', Cls w1 w' → w'.cell? ⟨w.heap.size, 0, none⟩ = some (.slice A n c) := fun _ h => h.cell (hS.cell 0 0 rfl rfl)
    have C1 : ∀ w', Cls w1 w' → w'.cell? ⟨w.heap.size, 1, none⟩ = some (.slice A' m d) := fun _ h => h.cell (hS.cell 0 1 rfl rfl)
    have HL := hid (fun w' (h : Cls w1 w') => hS.step h)
    have HS20 := hid hS20
    clear hS hS20
    go_wp2_with fail
    go_region_held3 (fun w' => Cls w1 w') (first | exact Cls.refl _ | exact Cls.drew _ | assumption | exact Cls.next (by assumption) (by assumption))
      (first
        | (go_at_call 85; refine (l6Singles_any _ (HN.out.grow (HL.out _ (by assumption)).bl) (by omega)).mono ?_; rintro e w2 ⟨v, rfl, ho, hb⟩; obtain ⟨A1, c1, hv1, _⟩ := ho.form; rw [singL_len] at hv1; subst hv1; have hl2 := Led.owns (HL.out _ (by assumption)) hb ho; have hcl2 : Cls w1 _ := Cls.next hb (by assumption))
        | (go_at_call 84; have hcl3 := ‹Cls w1 _›; refine (l6Cut_any (S := fun i => 2 ^ i) (singL_len m) (by omega) (fun i hi => singL_get hi) HS20.out HE.out hn0 (by omega) (by omega) (by omega) _ (HN.out.grow (HL.out _ hcl3).bl) (hl2.sees 0 rfl (singL_len m).symm)).mono ?_; rintro e w3 ⟨v3, rfl, ho3, hb3⟩; obtain ⟨A3, c3, hv3, _⟩ := ho3.form; subst hv3; have hl3 := hl2.owns hb3 ho3))
    have HZ := hid hl3
    have hw2 := hl2.bl.size
    clear hl2 hl3 ho3 hb3 ho hb hcl2 hcl3 HL C0 C1
    go_wp2
    go_ret2
    exact ⟨_, rfl, by rw [H.out]; exact (HZ.out.own 0 rfl).base hw2, HZ.out.bl⟩
end
end Go.Proofs.Ytfepilpllfiegaa
/- GroupCut of the program, walked. Conditions: none. -/
namespace Go.Proofs.Ytfepilpllfiegaa
open Go.RowKit
theorem goneG_take {fs : List Fib} {L : List Int} {k : Nat} {x : Int} (h : L[k]? = some x) : goneG fs (L.take (k + 1)) = goneG fs (L.take k) ++ (groupsL fs).getD x.toNat [] := by
  unfold goneG
  rw [List.take_add_one, h]
  simp
theorem goneG_len {fs : List Fib} : ∀ L : List Int, (goneG fs L).length ≤ L.length * (fs.length + 1) := by
  intro L
  unfold goneG
  induction L with
  | nil => simp
  | cons x L ih =>
    rw [List.flatMap_cons, List.length_append, List.length_cons, Nat.succ_mul]
    have : ((groupsL fs).getD x.toNat []).length ≤ fs.length + 1 := by
      rw [List.getD_eq_getElem?_getD]
      cases h : (groupsL fs)[x.toNat]? with
      | none => simp
      | some r => exact groups_row (List.mem_of_getElem? h)
    omega
section
variable {n c m d : Nat} {A A' : Option Addr} {xs : List ByteArray} {fs : List Fib}
set_option maxHeartbeats 4000000 in
set_option maxRecDepth 100000 in
theorem groupCut1_any {B k cc gN gF gT gA f t c2 bas : Nat} {G A2 : Option Addr} {l : List Int} {ss : List Sl} (w : World) (h : NetIs w A n c A' m d xs fs) (hN : Blk w gN 27 #[.slice A n c, .slice A' m d]) (hF : Blk w gF 3 #[.int .i64 (f : Int)]) (hT : Blk w gT 3 #[.int .i64 (t : Int)])
    (hA : Blk w gA 56 #[.slice A2 (groupsL fs).length c2]) (hO : OwnsSS w bas (.slice A2 (groupsL fs).length c2) ss (groupsL fs))
    (hs : Sees elInt w B G k l) (hk : k ≤ 40) (hl : lowL (groupsL fs).length l) (hm : m ≤ 40) (he : endsB n fs) (hf : f < n) (ht : t < n) :
    Calls Try.prog 87 #[.slice G k cc, .pointer (some ⟨gA, 0, none⟩), .pointer (some ⟨gN, 0, none⟩), .pointer (some ⟨gF, 0, none⟩), .pointer (some ⟨gT, 0, none⟩)] w fun e w' => e = .returned (.bool (cutG fs n f t l)) ∧ Below w.heap.size w w' := by
  obtain ⟨i0, hi, hz0, hz1, hz2⟩ := info_parts int_info
  have hgl := groups_len fs
  have hlf := h.flen
  have HLG := hid (fun j => goneG_len (fs := fs) (l.take j))
  have HLL := hid hs.len
  obtain ⟨X, hX⟩ : ∃ X, X = goneG fs l := ⟨_, rfl⟩
  obtain ⟨y, hy⟩ : ∃ y, y = compL (goneF X) fs n := ⟨_, rfl⟩
  have HP2 : Hid (cutG fs n f t l = !(valL y f == valL y t)) := by rw [hy, hX]; rfl
  rw [HP2.out]
  clear HP2
  have HF := hid hF
  have HT := hid hT
  have HNN := hid hN
  have HAA := hid hA
  have HOO := hid hO
  have HSS := hid hs
  have HNE := hid h
  have HLO := hid hl
  have hlc : Hid (y.length = n) := by rw [hy]; exact compL_len
  have HY := hid hy
  have HX := hid hX
  obtain ⟨N, hNg⟩ : ∃ N, N = (groupsL fs).length := ⟨_, rfl⟩
  have HNG := hid hNg
  rw [← hNg] at hgl HAA HOO HLO
  clear hy hX hF hT hN hA hO hs h hl hNg
  have iF : (f : Int) < (n : Int) := by omega
  have iT : (t : Int) < (n : Int) := by omega
  have hS := (Led.nil w).empty elInt 3 w.heap.size rfl w.heap.size (Nat.le_refl _)
  have HS : Hid (Led w (w.alloc (.cells #[] 3)) [tOwns elInt w.heap.size 3 (.slice (some ⟨w.heap.size, 0, none⟩) 0 0) (goneG fs (l.take 0))]) := hS
  clear hS
  go_enter Try.func87, Try.ntmps87
  go_wp2_with fail
  go_loopw [7, 14] (fun v i wr => ∃ j : Nat, j ≤ k ∧ i = .int .i64 j ∧ Hid (Led w wr [tOwns elInt w.heap.size 3 v (goneG fs (l.take j))])) (fun _ i _ => k - (intOf i).toNat)
  case atStart => exact ⟨0, Nat.zero_le _, rfl, HS⟩
  case round =>
    clear HS
    obtain ⟨j, hj, rfl, HS⟩ := hrel
    obtain ⟨A1, c1, rfl, _⟩ := HS.out.form 0 rfl
    by_cases hlt : j < k
    · obtain ⟨x, hx⟩ := get_of (k := j) HLL.out hlt
      obtain ⟨b, o, rfl, _, hc⟩ := HSS.out.at_ hlt
      have f0 := bl_cell HS.out.bl (hc j x hx 0 _ rfl)
      simp only [elInt, Nat.mul_one, Nat.add_zero] at f0
      have hxb := HLO.out x (List.mem_of_getElem? hx)
      obtain ⟨p, rfl⟩ : ∃ p : Nat, x = (p : Int) := ⟨x.toNat, by omega⟩
      have hp : p < N := by omega
      obtain ⟨r, hr⟩ := get_of (k := p) (l := groupsL fs) HNG.out.symm hp
      obtain ⟨ga, s, rfl, _, hsk, hq, hor⟩ := (HOO.out.below HS.out.bl).at_ hr
      have hrl := groups_row (List.mem_of_getElem? hr)
      obtain ⟨A3, c3, hv, _⟩ := hor.form
      injection hv with v1 v2 v3
      rw [v2] at hq hor
      have hq0 := bl_cell HS.out.bl (HAA.out.cell 0)
      simp at hq0
      have hsr := hor.sees
      have HSR := hid hsr
      have hlen := HLG.out j
      have htl : (l.take j).length ≤ 40 := by rw [List.length_take]; omega
      have hmul : (l.take j).length * (fs.length + 1) ≤ 40 * 41 := Nat.mul_le_mul htl (by omega)
      have HLE : Hid ((goneG fs (l.take j)).length ≤ 1640) := by unfold Hid; omega
      have HTK : Hid (goneG fs (l.take (j + 1)) = goneG fs (l.take j) ++ r) := by
        unfold Hid
        rw [goneG_take hx, Int.toNat_natCast, List.getD_eq_getElem?_getD, hr]; rfl
      clear hc hx hr hsk hor v1 v2 v3 hsr hlen htl hmul hxb
      go_wp2_with (first
        | (at_builtin; refine wpList_append_led rfl _ _ 33 rfl HS.out 0 rfl Try.underlying33 hi hz0 hz1 (by rw [hz2]; decide) rfl rfl rfl HSR.out (by have := HLE.out; omega) HS.out.bl.size ?_)
        | go_in)
      intro A6 c6 w6 h6
      have HS5 := hid h6
      clear h6 HS
      go_wp2
      go_roundw
      case rel => exact ⟨j + 1, by omega, by go_num, by rw [HTK.out]; exact HS5⟩
      case measure => simp [intOf]; omega
    · have hjk : j = k := by omega
      subst hjk
      have HE : Hid (goneG fs (l.take j) = X) := by unfold Hid; rw [HX.out, List.take_of_length_le (by rw [HLL.out]; exact Nat.le_refl _)]
      have hlen := HLG.out j
      have htl : (l.take j).length ≤ 40 := by rw [List.length_take]; omega
      have hmul : (l.take j).length * (fs.length + 1) ≤ 40 * 41 := Nat.mul_le_mul htl (by omega)
      have hS2 := HS.out
      rw [HE.out] at hS2 hlen ⊢
      have hX2 : X.length ≤ 1048576 := by omega
      have HS2 := hid hS2
      have q0 := bl_cell HS2.out.bl (HNN.out.cell 0)
      have q1 := bl_cell HS2.out.bl (HNN.out.cell 1)
      simp at q0 q1
      clear hlt hlen htl hmul hS2 HS
      go_wp2_with fail
      refine (components_any _ (HNE.out.grow HS2.out.bl) (HS2.out.seesI 0 rfl) hX2 he (by omega)).mono ?_
      rintro e w1 ⟨v, rfl, ho, hb⟩
      obtain ⟨g, cV, rfl⟩ := ho.splitg compL_len (show 0 < n by omega)
      have hS := HS2.out.owns hb ho
      have c0 := bl_cell hS.bl (HF.out.cell 0)
      have c1 := bl_cell hS.bl (HT.out.cell 0)
      simp at c0 c1
      rw [← HY.out] at hS
      have F0 : ∀ w', Cls w1 w' → w'.cell? ⟨gF, 0, none⟩ = some (.int .i64 (f : Int)) := fun _ h => h.cell c0
      have T0 : ∀ w', Cls w1 w' → w'.cell? ⟨gT, 0, none⟩ = some (.int .i64 (t : Int)) := fun _ h => h.cell c1
      have V0 : ∀ w', Cls w1 w' → w'.cell? ⟨g, f, none⟩ = some (.int .i64 (valL y f)) := fun _ h => h.cell (hS.int_at 0 rfl (j := f) (by rw [hlc.out]; omega))
      have V1 : ∀ w', Cls w1 w' → w'.cell? ⟨g, t, none⟩ = some (.int .i64 (valL y t)) := fun _ h => h.cell (hS.int_at 0 rfl (j := t) (by rw [hlc.out]; omega))
      clear ho hb c0 c1
      go_wp2_with fail
      refine region_cls (by kernel_rfl) (by kernel_rfl) ?_
      repeat (first
        | ((with_reducible refine quiet_pos ?_ (fun K hK => ?_))
           · rfl
           apply Exists.intro
           refine ⟨fun w' hw' => ?_, ?_⟩
           · go_simp
             with_reducible rfl
           simp only [Act.put, List.setIfInBounds_toArray, List.set_cons_zero, List.set_cons_succ]
           refine hK _ ?_; clear hK K)
        | ((with_reducible refine quiet_neg ?_ (fun K hK => ?_))
           · rfl
           simp only [Act.put, List.setIfInBounds_toArray, List.set_cons_zero, List.set_cons_succ]
           refine hK _ ?_; clear hK K))
      with_reducible refine wpQuiet_nil ?_
      intro wz hwz'
      have HZ := hid (hS.step hwz').bl
      clear hS F0 T0 V0 V1 hwz' q0 q1 HS2
      go_wp2
      go_ret
      exact ⟨rfl, HZ.out⟩
set_option maxHeartbeats 4000000 in
set_option maxRecDepth 100000 in
theorem implGroupCut (f t : Int) (w : World) (h : NetIs w A n c A' m d xs fs) :
    Calls Try.prog 32 #[.agg #[.slice A n c, .slice A' m d], .int .i64 f, .int .i64 t] w fun e w' => ∃ v, e = .returned (.tuple #[v, .bool (mcB xs fs f t)]) ∧ Owns elInt w' w.heap.size 3 v (gcL xs fs f t) ∧ Below w.heap.size w w' := by
  have hS := ((((Led.nil w).blk_ w.heap.size rfl 27 #[.slice A n c, .slice A' m d]).blk_ (w.heap.size + 1) (by simp) 3 #[.int .i64 f]).blk_ (w.heap.size + 1 + 1) (by simp) 3 #[.int .i64 t]).blk_ (w.heap.size + 1 + 1 + 1) (by simp) 3 #[.int .i64 f, .int .i64 t]
  have hs2 : Sees elInt ((((w.alloc (.cells #[.slice A n c, .slice A' m d] 27)).alloc (.cells #[.int .i64 f] 3)).alloc (.cells #[.int .i64 t] 3)).alloc (.cells #[.int .i64 f, .int .i64 t] 3)) (w.heap.size + 1 + 1 + 1 + 1) (some ⟨w.heap.size + 1 + 1 + 1, 0, none⟩) 2 [f, t] := by
    refine ⟨rfl, .inr ⟨_, _, rfl, Nat.lt_succ_self _, fun k x hx j u hu => ?_⟩⟩
    have hj : j = 0 := by have := (List.getElem?_eq_some_iff.1 hu).1; simp [elInt] at this; omega
    subst hj
    have hu' : Value.int .i64 x = u := by simpa [elInt] using hu
    subst hu'
    rcases k with _ | _ | k
    · simp at hx; subst hx; exact hS.cell 0 0 rfl rfl
    · simp at hx; subst hx; exact hS.cell 0 1 rfl rfl
    · simp at hx
  have HB : Hid (mcB xs fs f t = ((goodB xs fs && nodesB n [f, t]) && !(f == t))) := by unfold Hid mcB; rw [nodesB_two, h.xlen, Bool.and_assoc (goodB xs fs)]
  cases g : (goodB xs fs && nodesB n [f, t])
  · have HF : Hid (mcB xs fs f t = false) := by unfold Hid; rw [HB.out, g]; rfl
    have H : Hid (gcL xs fs f t = []) := by unfold Hid gcL; rw [HF.out]; rfl
    rw [HF.out]
    go_enter Try.func32, Try.ntmps32
    go_wp2_with fail
    refine (calls_bool (isNode_any _ (h.grow hS.bl) hs2 (by decide)) g).mono ?_
    rintro e w1 ⟨rfl, hb⟩
    go_wp2_with fail
    go_ret2
    exact ⟨_, rfl, by rw [H.out]; exact World.ownsRow_nil _ _ _ _, bl_then hS.bl hb⟩
  · cases g2 : (f == t)
    · have HF : Hid (mcB xs fs f t = true) := by unfold Hid; rw [HB.out, g, g2]; rfl
      obtain ⟨hg, hf, ht, hne⟩ := mcB_parts HF.out
      obtain ⟨he, hn0, hn8, hm14⟩ := good_parts h hg
      have hfx := hf
      have htx := ht
      rw [h.xlen] at hf ht
      obtain ⟨f', rfl⟩ : ∃ f' : Nat, f = (f' : Int) := ⟨f.toNat, by omega⟩
      obtain ⟨t', rfl⟩ : ∃ t' : Nat, t = (t' : Int) := ⟨t.toNat, by omega⟩
      have hlf := h.flen
      have hgl := groups_len fs
      have H : Hid (gcL xs fs (f' : Int) (t' : Int) = gcS fs n f' t') := by unfold Hid gcL; rw [HF.out, h.xlen]; rfl
      have HW := hid (few_cutG (n := n) hg (f := f') (t := t') (by omega) (by omega) (by omega))
      rw [HF.out]
      have HN := hid h
      have HE := hid he
      have g3 : ((f' : Int) == (t' : Int)) = false := g2
      clear h he hfx htx
      go_enter Try.func32, Try.ntmps32
      go_wp2_with fail
      refine (calls_bool (isNode_any _ (HN.out.grow hS.bl) hs2 (by decide)) g).mono ?_
      rintro e w1 ⟨rfl, hb⟩
      replace hS := hS.step hb
      have q0 := hS.cell 2 0 rfl rfl
      have q1 := hS.cell 1 0 rfl rfl
      have q2 := hS.cell 3 0 rfl rfl
      have q3 := hS.cell 3 1 rfl rfl
      clear hb hs2
      go_wp2_with fail
      refine (groups_any _ (HN.out.grow hS.bl)).mono ?_
      rintro e w2 ⟨⟨A2, n2, c2⟩, ss, rfl, hss, hb2⟩
      dsimp only [slV] at hss ⊢
      obtain rfl := ss_n hss
      have hS3 := (hS.ss hb2 hss).blk_ w2.heap.size rfl 56 #[.slice A2 (groupsL fs).length c2]
      have hO2 : OwnsSS _ w1.heap.size (.slice A2 (groupsL fs).length c2) ss (groupsL fs) := hS3.get 1 rfl
      have hBA : Blk _ w2.heap.size 56 #[.slice A2 (groupsL fs).length c2] := hS3.get 0 rfl
      have hBN : Blk _ w.heap.size 27 #[.slice A n c, .slice A' m d] := hS3.get 5 rfl
      have hBF : Blk _ (w.heap.size + 1) 3 #[.int .i64 (f' : Int)] := hS3.get 4 rfl
      have hBT : Blk _ (w.heap.size + 1 + 1) 3 #[.int .i64 (t' : Int)] := hS3.get 3 rfl
      have HFW := hid (fewest_any (n := (groupsL fs).length) (p := cutG fs n f' t') (H := 87) (hcap := #[.pointer (some ⟨w2.heap.size, 0, none⟩), .pointer (some ⟨w.heap.size, 0, none⟩), .pointer (some ⟨w.heap.size + 1, 0, none⟩), .pointer (some ⟨w.heap.size + 1 + 1, 0, none⟩)]) (fun _ _ => by rfl) (by omega) _
        (fun w' L G cc hcl hs hL hLn => groupCut1_any w' ((HN.out.grow hS3.bl).grow hcl) (hBN.below hcl hBN.lt) (hBF.below hcl hBF.lt) (hBT.below hcl hBT.lt) (hBA.below hcl hBA.lt) (hO2.below hcl) hs (by omega) hL (by omega) HE.out (by omega) (by omega)))
      rw [HW.out] at HFW
      have hbl := hS3.bl
      have HBL := hid hbl
      clear hBN hBF hBT hBA hO2 hb2 hss q0 q1 q2 q3 hS hS3 hbl hgl
      go_wp2_with fail
      refine HFW.out.mono ?_
      rintro e w3 ⟨v, rfl, ho, hb3⟩
      have HO := hid (ho.base (base' := w.heap.size) HBL.out.size)
      have HZ := hid (bl_then HBL.out hb3)
      clear ho hb3
      go_wp2_with fail
      go_ret2
      exact ⟨_, rfl, by rw [H.out]; exact HO.out, HZ.out⟩
    · have HF : Hid (mcB xs fs f t = false) := by unfold Hid; rw [HB.out, g2]; simp
      have H : Hid (gcL xs fs f t = []) := by unfold Hid gcL; rw [HF.out]; rfl
      rw [HF.out]
      go_enter Try.func32, Try.ntmps32
      go_wp2_with fail
      refine (calls_bool (isNode_any _ (h.grow hS.bl) hs2 (by decide)) g).mono ?_
      rintro e w1 ⟨rfl, hb⟩
      replace hS := hS.step hb
      have q0 := hS.cell 2 0 rfl rfl
      have q1 := hS.cell 1 0 rfl rfl
      clear hb hs2
      go_wp2_with fail
      go_ret2
      exact ⟨_, rfl, by rw [H.out]; exact World.ownsRow_nil _ _ _ _, hS.bl⟩
end
end Go.Proofs.Ytfepilpllfiegaa
