/- Lemmas and walks that the claim rests on, laid together. Conditions: none. -/
import Derived.Test.YtfepilpllfiegaaZ41749a8599c8
import Derived.Test.YtfepilpllfiegaaZ5e470b3a76ba
import Derived.Test.YtfepilpllfiegaaZf3c2460d17f0
import Derived.Test.YtfepilpllfiegaaZ1b08e2d0e358
import Derived.Test.YtfepilpllfiegaaZa289d20bf77f
/- Distances, Diameter of both sides, walked. Conditions: none. -/
namespace Go.Proofs.Ytfepilpllfiegaa
open Go.RowKit
theorem results_tmp4 {fn : Func} {t u v x : Tmp} (h : fn.results = #[.tmp t, .tmp u, .tmp v, .tmp x]) (tmps : Array Value) (P : Program) (w : World) :
    (results fn tmps).run P w = .ok (.tuple #[tmps.getD t undef, tmps.getD u undef, tmps.getD v undef, tmps.getD x undef]) w := by
  simp [results, h]
section
variable {n c m d : Nat} {A A' : Option Addr} {xs : List ByteArray} {fs : List Fib}
def diL (xs : List ByteArray) (fs : List Fib) (v : Int) : List Int := if faB xs fs v then dsF fs xs.length v.toNat else []
theorem diL_len {v : Int} : (diL xs fs v).length ≤ 8 := by
  unfold diL
  cases g : faB xs fs v
  · simp
  · unfold faB at g
    rw [Bool.and_eq_true] at g
    have := (goodB_bd g.1).2.1
    unfold dsF
    simp [distL_len]; omega
set_option maxHeartbeats 1000000 in
set_option maxRecDepth 100000 in
theorem implDistances (x : Int) (w : World) (h : NetIs w A n c A' m d xs fs) :
    Calls Try.prog 35 #[.agg #[.slice A n c, .slice A' m d], .int .i64 x] w fun e w' => ∃ v, e = .returned (.tuple #[v, .bool (faB xs fs x)]) ∧ Owns elInt w' w.heap.size 3 v (diL xs fs x) ∧ Below w.heap.size w w' := by
  have hS := ((Led.nil w).blk_ w.heap.size rfl 27 #[.slice A n c, .slice A' m d]).blk_ (w.heap.size + 1) (by simp) 3 #[.int .i64 x]
  have hsx := sees_new elInt (w.alloc (.cells #[.slice A n c, .slice A' m d] 27)) x 3 (w.heap.size + 1) (by simp)
  have HK : Hid (faB xs fs x = (goodB xs fs && nodesB n [x])) := by unfold Hid faB; rw [nodesB_one, h.xlen]
  cases g : faB xs fs x
  · have H : Hid (diL xs fs x = []) := by unfold Hid diL; rw [g]; rfl
    rw [HK.out] at g
    go_enter Try.func35, Try.ntmps35
    go_wp2_with fail
    refine (calls_bool (isNode_any _ (h.grow hS.bl) hsx (by decide)) g).mono ?_
    rintro e w1 ⟨rfl, hb⟩
    go_wp2_with fail
    go_ret2
    exact ⟨_, rfl, by rw [H.out]; exact World.ownsRow_nil _ _ _ _, bl_then hS.bl hb⟩
  · have H : Hid (diL xs fs x = distL (goneF []) fs n x.toNat) := by unfold Hid diL; rw [g, h.xlen]; rfl
    have g' := g
    unfold faB at g'
    rw [Bool.and_eq_true, h.xlen] at g'
    obtain ⟨he, hn0, hn8, hm14⟩ := good_parts h g'.1
    have hx := inB_idx g'.2
    obtain ⟨s, rfl⟩ : ∃ s : Nat, x = (s : Int) := ⟨x.toNat, by omega⟩
    have HL5 := hid (goodB_lens5 g'.1)
    rw [HK.out] at g
    clear g'
    go_enter Try.func35, Try.ntmps35
    go_wp2_with fail
    refine (calls_bool (isNode_any _ (h.grow hS.bl) hsx (by decide)) g).mono ?_
    rintro e w1 ⟨rfl, hb⟩
    replace hS := hS.step hb
    have q0 := hS.cell 1 0 rfl rfl
    have q1 := hS.cell 1 1 rfl rfl
    clear hb
    go_wp2_with fail
    refine (lengthsFrom_any s _ (h.grow hS.bl) he HL5.out (by omega) hn8 hm14).mono ?_
    rintro e w2 ⟨v, rfl, ho, hb2⟩
    have HO := hid (ho.base (base' := w.heap.size) hS.bl.size)
    clear ho
    go_wp2_with fail
    go_ret2
    exact ⟨_, rfl, by rw [H.out]; exact HO.out, bl_then hS.bl hb2⟩
set_option maxHeartbeats 1000000 in
set_option maxRecDepth 100000 in
theorem specDistances (x : Int) (w : World) (h : NetIs w A n c A' m d xs fs) :
    Calls Try.prog 36 #[.agg #[.slice A n c, .slice A' m d], .int .i64 x] w fun e w' => ∃ v, e = .returned (.tuple #[v, .bool (faB xs fs x)]) ∧ Owns elInt w' w.heap.size 3 v (diL xs fs x) ∧ Below w.heap.size w w' := by
  have hS := (Led.nil w).blk_ w.heap.size rfl 27 #[.slice A n c, .slice A' m d]
  have hn := h.nle
  have HK : Hid (faB xs fs x = (goodB xs fs && inB 0 ((n : Int) - 1) x)) := by unfold Hid faB; rw [h.xlen]
  have iw : IntKind.i64.wrap ((n : Int) - 1) = (n : Int) - 1 := IntWalk.i64_in _ (by omega)
  cases g : goodB xs fs
  · have HF : Hid (faB xs fs x = false) := by unfold Hid; rw [HK.out, g]; rfl
    have H : Hid (diL xs fs x = []) := by unfold Hid diL; rw [HF.out]; rfl
    rw [HF.out]
    go_enter Try.func36, Try.ntmps36
    go_wp2_with fail
    refine (goodN _ (h.grow hS.bl)).mono ?_
    rintro e w1 ⟨rfl, hb⟩
    rw [g]
    have hS1 := (hS.step hb).empty elInt 3 w1.heap.size rfl w.heap.size (hS.step hb).bl.size
    go_wp2_with fail
    go_ret2
    exact ⟨_, rfl, by rw [H.out]; exact hS1.own 0 rfl, hS1.bl⟩
  · cases g2 : inB 0 ((n : Int) - 1) x
    · have HF : Hid (faB xs fs x = false) := by unfold Hid; rw [HK.out, g, g2]; rfl
      have H : Hid (diL xs fs x = []) := by unfold Hid diL; rw [HF.out]; rfl
      rw [HF.out]
      go_enter Try.func36, Try.ntmps36
      go_wp2_with fail
      refine (goodN _ (h.grow hS.bl)).mono ?_
      rintro e w1 ⟨rfl, hb⟩
      rw [g]
      replace hS := hS.step hb
      have q0 := hS.cell 0 0 rfl rfl
      have hS1 := hS.empty elInt 3 w1.heap.size rfl w.heap.size hS.bl.size
      clear hb
      go_wp2_with fail
      refine (l1In_any _ _ _ _).mono ?_
      rintro e w3 ⟨rfl, rfl⟩
      rw [g2]
      go_wp2_with fail
      go_ret2
      exact ⟨_, rfl, by rw [H.out]; exact hS1.own 0 rfl, hS1.bl⟩
    · have HF : Hid (faB xs fs x = true) := by unfold Hid; rw [HK.out, g, g2]; rfl
      have H : Hid (diL xs fs x = distL (goneF []) fs n x.toNat) := by unfold Hid diL; rw [HF.out, h.xlen]; rfl
      rw [HF.out]
      obtain ⟨he, hn0, hn8, hm14⟩ := good_parts h g
      have hx := inB_idx g2
      obtain ⟨s, rfl⟩ : ∃ s : Nat, x = (s : Int) := ⟨x.toNat, by omega⟩
      have HL5 := hid (goodB_lens5 g)
      go_enter Try.func36, Try.ntmps36
      go_wp2_with fail
      refine (goodN _ (h.grow hS.bl)).mono ?_
      rintro e w1 ⟨rfl, hb⟩
      rw [g]
      replace hS := hS.step hb
      have q0 := hS.cell 0 0 rfl rfl
      have q1 := hS.cell 0 1 rfl rfl
      have hS1 := hS.empty elInt 3 w1.heap.size rfl w.heap.size hS.bl.size
      clear hb
      go_wp2_with fail
      refine (l1In_any _ _ _ _).mono ?_
      rintro e w3 ⟨rfl, rfl⟩
      rw [g2]
      go_wp2_with fail
      refine (l5Distances_any (l := []) s _ (h.grow hS1.bl) (Sees.nil elInt _ 0 _) (by decide) he HL5.out (by omega) hn8 hm14).mono ?_
      rintro e w2 ⟨v, rfl, ho, hb2⟩
      have HO := hid (ho.base (base' := w.heap.size) hS1.bl.size)
      clear ho
      go_wp2_with fail
      go_ret2
      exact ⟨_, rfl, by rw [H.out]; exact HO.out, bl_then hS1.bl hb2⟩
end
end Go.Proofs.Ytfepilpllfiegaa
/- FnDistances, walked. Conditions: none. -/
namespace Go.Proofs.Ytfepilpllfiegaa
open Go.RowKit
section
variable {xs : List ByteArray} {fs : List Fib}
theorem goodB_lensB (h : goodB xs fs = true) : lensB fs := fun i hi => by
  have h1 := goodB_lens5 h i hi
  omega
/-- What the law asks of a node and the shortest route to it. -/
theorem short_facts {s k : Nat} (g : goodB xs fs = true) (hs : s < xs.length) (hk : k < xs.length) (hne : k ≠ s) :
    (shO xs fs (s : Int) (k : Int) (fun _ => true) = none ∧ valL (dsF fs xs.length s) k < 0) ∨ ∃ r, shO xs fs (s : Int) (k : Int) (fun _ => true) = some r ∧ valL (dsF fs xs.length s) k = rlI xs fs (s : Int) r ∧ 0 ≤ valL (dsF fs xs.length s) k ∧ routeB xs fs (s : Int) r = true := by
  have hmc : mcB xs fs (s : Int) (k : Int) = true := by
    unfold mcB inB
    rw [g]
    simp
    omega
  have hfb : ∀ f ∈ fs, fibB xs.length f = true := fun f hf => goodB_fibB g hf
  have e : shO xs fs (s : Int) (k : Int) (fun _ => true) = frO fs xs.length s k (fun _ => true) := by unfold shO; rw [hmc, if_pos rfl]; rfl
  rw [e]
  rcases short_dist (to := k) hfb (goodB_ends g) (goodB_lensB g) hs hk (fun e => hne e.symm) with h | ⟨r, h1, h2, h3, h4⟩
  · exact .inl h
  · have hr := (rbL_rt (n := xs.length) hs h2).1
    have hrb : routeB xs fs (s : Int) r = true := by unfold routeB; rw [g, hr]; rfl
    exact .inr ⟨r, h1, by unfold rlI; rw [hrb, if_pos rfl]; exact h3, by rw [show valL (dsF fs xs.length s) k = lenR fs r from h3]; exact h4, hrb⟩
end
set_option maxHeartbeats 4000000 in
set_option maxRecDepth 100000 in
theorem walkFnDistances (w : World) {A : Option Addr} {n c : Nat} {bs : List Int} (hA : BytesArg w A n c bs) : Calls Try.prog 6 #[.slice A n c] w fun e w' => e = .returned (.bool true) ∧ Below w.heap.size w w' := by
  obtain ⟨hcc, hcm, hS, hx⟩ := hA
  unfold maxLen at hcm
  by_cases hn : n ≤ 65536
  · have HS := hid hS
    have HX := hid hx
    clear hS hx
    go_enter Try.func6, Try.ntmps6
    go_wp2_with fail
    go_in
    go_wp2_with fail
    refine (drawDistances_any _ HS.out HX.out (by omega)).mono ?_
    rintro e w1 ⟨B, p, cb, E, m, d, xs, fs, v, rfl, hD⟩
    have HN := hid hD.net
    have HB1 := hid hD.bl
    have hp := hD.hp
    have hm := hD.hm
    have HXL := hid hD.xl
    have HFL := hid hD.fl
    have H1 := hid ((Led.nil w1).blk_ w1.heap.size rfl 27 #[.slice B p cb, .slice E m d])
    clear hD HS HX
    go_wp2_with fail
    have HP1 := hid (fun w' h => implDistances v w' (HN.out.grow h))
    have HP2 := hid (fun w' h => specDistances v w' (HN.out.grow h))
    obtain ⟨D, hDl⟩ : ∃ D, D = diL xs fs v := ⟨_, rfl⟩
    obtain ⟨ok, hok⟩ : ∃ ok, ok = faB xs fs v := ⟨_, rfl⟩
    rw [← hDl, ← hok] at HP1 HP2
    have HDL := hid hDl
    have HOK := hid hok
    clear hDl hok
    refine (HP1.out _ H1.out.bl).mono ?_
    rintro e w2 ⟨V, rfl, ho, hb2⟩
    have H2 := hid (H1.out.owns hb2 ho)
    obtain ⟨AV, cV, rfl, _⟩ := H2.out.form 0 rfl
    have q0 := H2.out.cell 1 0 rfl rfl
    have q1 := H2.out.cell 1 1 rfl rfl
    clear ho hb2 H1
    go_wp2_with fail
    refine (HP2.out _ H2.out.bl).mono ?_
    rintro e w3 ⟨V2, rfl, -, hb3⟩
    have H3 := hid (H2.out.step hb3)
    clear hb3 q0 q1 H2 HP1 HP2
    cases ok
    · have h0 : D = [] := by rw [HDL.out]; unfold diL; rw [← HOK.out]; rfl
      subst h0
      go_wp2_with fail
      go_ret
      exact ⟨rfl, bl_then HB1.out H3.out.bl⟩
    · have hfa := HOK.out.symm
      unfold faB at hfa
      rw [Bool.and_eq_true] at hfa
      obtain ⟨hg, hin⟩ := hfa
      have hin2 := inB_idx hin
      rw [HXL.out] at hin2
      obtain ⟨s, rfl⟩ : ∃ s : Nat, v = (s : Int) := ⟨v.toNat, by omega⟩
      have hDs : D = dsF fs xs.length s := by rw [HDL.out]; unfold diL; rw [← HOK.out, if_pos rfl]; rfl
      have hDn : D.length = p := by rw [hDs]; exact (distL_len).trans HXL.out
      clear HDL hin
      rw [HXL.out] at hDs
      have HDS := hid hDs
      have HG := hid hg
      have HDN := hid hDn
      clear hDs hg hDn
      go_wp2_with fail
      go_loopw [9] (fun i wr => ∃ k : Nat, k ≤ m ∧ i = .int .i64 k ∧ Hid (Led w1 wr [tOwns elInt (w1.alloc (.cells #[.slice B p cb, .slice E m d] 27)).heap.size 3 (.slice AV D.length cV) D, tBlk w1.heap.size 27 #[.slice B p cb, .slice E m d]])) (fun i _ => m - (intOf i).toNat)
      case atStart => exact ⟨0, Nat.zero_le _, rfl, H3⟩
      case round =>
        clear H3
        obtain ⟨k, hk, rfl, HS⟩ := hrel
        have q1 := HS.out.cell 1 1 rfl rfl
        by_cases hlt : k < m
        · have iz : (k : Int) < (m : Int) := by omega
          obtain ⟨f, hf⟩ := get_of (k := k) HFL.out hlt
          have hdf : fibD fs k = f := getD_of hf
          have hkl : k < fs.length := by rw [HFL.out]; exact hlt
          have he := goodB_ends HG.out
          have hdist := dist_fib (q := goneF []) he (goodB_lensB HG.out) (by rw [HXL.out]; omega : s < xs.length) hkl rfl
          have hab := he k hkl
          have hl5 := goodB_lens5 HG.out k hkl
          rw [hdf] at hdist hab hl5
          rw [HXL.out] at hab hdist
          have hdD : distL (goneF []) fs p s = D := HDS.out.symm
          rw [hdD] at hdist
          obtain ⟨ia, hia⟩ : ∃ ia : Nat, f.a = (ia : Int) := ⟨f.a.toNat, by omega⟩
          obtain ⟨ib, hib⟩ : ∃ ib : Nat, f.b = (ib : Int) := ⟨f.b.toNat, by omega⟩
          rw [hia, hib] at hdist hab
          simp only [Int.toNat_natCast] at hdist
          obtain ⟨b, o, rfl, _, hc⟩ := (HN.out.grow HS.out.bl).fibs.at_ hlt
          have f0 := hc k f hf 0 _ rfl
          have f1 := hc k f hf 1 _ rfl
          have f2 := hc k f hf 2 _ rfl
          simp only [elFib, Nat.add_zero] at f0 f1 f2
          rw [hia] at f0
          rw [hib] at f1
          obtain ⟨fl, hfl2⟩ : ∃ fl, fl = f.len := ⟨_, rfl⟩
          rw [← hfl2] at f2 hdist hl5
          obtain ⟨g1, c1, hv⟩ := HS.out.row_ 0 rfl rfl (by rw [HDN.out]; omega)
          injection hv with hv1 _ hv3
          subst hv1; subst hv3
          have va := HS.out.int_at 0 rfl (j := ia) (by rw [HDN.out]; omega)
          have vb := HS.out.int_at 0 rfl (j := ib) (by rw [HDN.out]; omega)
          obtain ⟨x, hx⟩ : ∃ x, x = valL D ia := ⟨_, rfl⟩
          obtain ⟨y, hy⟩ : ∃ y, y = valL D ib := ⟨_, rfl⟩
          rw [← hx] at va hdist
          rw [← hy] at vb hdist
          have D1 : ∀ w', Cls wr w' → w'.cell? ⟨w1.heap.size, 1, none⟩ = some (.slice (some ⟨b, o, none⟩) m d) := fun _ h => h.cell q1
          have F0 : ∀ w', Cls wr w' → w'.cell? ⟨b, o + k * 4, none⟩ = some (.int .i64 (ia : Int)) := fun _ h => h.cell f0
          have F1 : ∀ w', Cls wr w' → w'.cell? ⟨b, o + k * 4 + 1, none⟩ = some (.int .i64 (ib : Int)) := fun _ h => h.cell f1
          have F2 : ∀ w', Cls wr w' → w'.cell? ⟨b, o + k * 4 + 2, none⟩ = some (.int .i64 fl) := fun _ h => h.cell f2
          have VA : ∀ w', Cls wr w' → w'.cell? ⟨g1, ia, none⟩ = some (.int .i64 x) := fun _ h => h.cell va
          have VB : ∀ w', Cls wr w' → w'.cell? ⟨g1, ib, none⟩ = some (.int .i64 y) := fun _ h => h.cell vb
          have ja : ia < D.length := by rw [HDN.out]; omega
          have jb : ib < D.length := by rw [HDN.out]; omega
          have ja0 : (ia : Int) < (D.length : Int) := by omega
          have jb0 : (ib : Int) < (D.length : Int) := by omega
          have HDI := hid hdist
          clear hc f0 f1 f2 hf hdf hx hy va vb hfl2 hia hib he hdist hab hdD hkl
          go_wp2_with fail
          refine region_cls (by kernel_rfl) (by kernel_rfl) ?_
          repeat (first
            | ((with_reducible refine quiet_pos ?_ (fun K hK => ?_))
               · rfl
               apply Exists.intro
               refine ⟨fun w' hw' => ?_, ?_⟩
               · go_simp
                 with_reducible rfl
               simp only [Act.put, List.setIfInBounds_toArray, List.set_cons_zero, List.set_cons_succ]
               refine hK _ ?_; clear hK K)
            | ((with_reducible refine quiet_neg ?_ (fun K hK => ?_))
               · rfl
               simp only [Act.put, List.setIfInBounds_toArray, List.set_cons_zero, List.set_cons_succ]
               refine hK _ ?_; clear hK K))
          with_reducible refine wpQuiet_nil ?_
          intro wz hwz'
          have HS1 := hid (HS.out.step hwz')
          have c1 := D1 _ hwz'
          have c2 := F2 _ hwz'
          clear HS D1 F0 F1 F2 VA VB hwz' q1
          have hdist := HDI.out
          by_cases hx0 : x < 0
          · have hy0 : y < 0 := hdist.1.1 hx0
            have n1 : ¬ (x ≥ 0) := by omega
            clear hdist HDI
            go_wp2
            go_roundw
            case rel => exact ⟨k + 1, by omega, by go_num, HS1⟩
            case measure => simp [intOf]; omega
          · have hy0 : ¬ y < 0 := fun e => hx0 (hdist.1.2 e)
            have hxy := hdist.2 (by omega)
            have n1 : x ≥ 0 := by omega
            have i1 : IntKind.i64.wrap (x - y) = x - y := IntWalk.i64_in _ (by omega)
            have i2 : IntKind.i64.wrap (y - x) = y - x := IntWalk.i64_in _ (by omega)
            have n2 : ¬ (x - y > fl) := by omega
            have n3 : ¬ (y - x > fl) := by omega
            clear hdist HDI hxy
            go_wp2
            go_roundw
            case rel => exact ⟨k + 1, by omega, by go_num, HS1⟩
            case measure => simp [intOf]; omega
        · have iz : ¬ ((k : Int) < (m : Int)) := by omega
          go_wp2_with fail
          go_loopw [12] (fun i wr => ∃ k : Nat, k ≤ p ∧ i = .int .i64 k ∧ Hid (Led w1 wr [tOwns elInt (w1.alloc (.cells #[.slice B p cb, .slice E m d] 27)).heap.size 3 (.slice AV D.length cV) D, tBlk w1.heap.size 27 #[.slice B p cb, .slice E m d]])) (fun i _ => p - (intOf i).toNat)
          case atStart => exact ⟨0, Nat.zero_le _, rfl, HS⟩
          case round =>
            clear HS q1 hlt hk
            obtain ⟨k, hk, rfl, HS⟩ := hrel
            have q0 := HS.out.cell 1 0 rfl rfl
            have q1 := HS.out.cell 1 1 rfl rfl
            obtain ⟨g1, c1, hv⟩ := HS.out.row_ 0 rfl rfl (by rw [HDN.out]; omega)
            injection hv with hv1 _ hv3
            subst hv1; subst hv3
            by_cases hlt : k < p
            · have iz : (k : Int) < (D.length : Int) := by rw [HDN.out]; omega
              have HPS := hid (implShortestRoute (s : Int) (k : Int) _ (HN.out.grow HS.out.bl))
              have HLN := hid (shO_len (xs := xs) (fs := fs) (f := (s : Int)) (t := (k : Int)) (p := fun _ => true))
              have HSF := hid (fun hne => short_facts (k := k) HG.out (by rw [HXL.out]; omega : s < xs.length) (by rw [HXL.out]; omega) hne)
              have HDS2 : Hid (dsF fs xs.length s = D) := by unfold Hid; rw [HXL.out]; exact HDS.out.symm
              obtain ⟨oS, hoS⟩ : ∃ oS, oS = shO xs fs (s : Int) (k : Int) (fun _ => true) := ⟨_, rfl⟩
              rw [← hoS] at HPS HSF HLN
              have HOS := hid hoS
              rw [HDS2.out] at HSF
              have va := HS.out.int_at 0 rfl (j := k) (by rw [HDN.out]; exact hlt)
              obtain ⟨x, hx⟩ : ∃ x, x = valL D k := ⟨_, rfl⟩
              rw [← hx] at va HSF
              have HXV := hid hx
              clear hoS hx
              go_wp2_with fail
              refine HPS.out.mono ?_
              rintro e w4 ⟨R, kr, rfl, ho, hb⟩
              have h4 := HS.out.owns hb ho
              obtain ⟨ids, hids⟩ : ∃ ids, ids = frL oS := ⟨_, rfl⟩
              rw [← hids] at h4 HLN ⊢
              obtain ⟨sr, hsr⟩ : ∃ sr, sr = frS oS (s : Int) := ⟨_, rfl⟩
              rw [← hsr]
              have H5 := hid (h4.blk_ w4.heap.size rfl 35 #[.int .i64 sr, .slice R ids.length kr])
              have HIDS := hid hids
              have HSR := hid hsr
              clear h4 ho hb HPS hids hsr
              have q0 := H5.out.cell 3 0 rfl rfl
              have q1 := H5.out.cell 3 1 rfl rfl
              have r0 := H5.out.cell 0 0 rfl rfl
              have r1 := H5.out.cell 0 1 rfl rfl
              have HPL := hid (implRouteLength (s := sr) _ (HN.out.grow H5.out.bl) (H5.out.rt 1 rfl (by have := HLN.out; omega)))
              clear HS
              go_wp2_with fail
              refine HPL.out.mono ?_
              rintro e w6 ⟨rfl, hb⟩
              have h6 := H5.out.step hb
              have va := h6.int_at 2 rfl (j := k) (by rw [HDN.out]; exact hlt)
              rw [← HXV.out] at va
              have H6 := hid (h6.drop 2)
              clear h6 hb H5 HPL q0 q1 r0 r1
              by_cases hks : k = s
              · have n1 : ((k : Int) != (s : Int)) = false := by rw [hks]; simp
                clear hks
                go_wp2
                go_roundw
                case rel => exact ⟨k + 1, by omega, by go_num, H6⟩
                case measure => simp [intOf]; omega
              · have n1 : ((k : Int) != (s : Int)) = true := by simp; omega
                rcases HSF.out hks with ⟨h1, h2⟩ | ⟨r, h1, h2, h3, h4⟩
                · subst h1
                  have n2 : ¬ (x ≥ 0) := by omega
                  clear hks
                  go_wp2
                  go_roundw
                  case rel => exact ⟨k + 1, by omega, by go_num, H6⟩
                  case measure => simp [intOf]; omega
                · subst h1
                  have e1 : ids = r := HIDS.out
                  have e2 : sr = (s : Int) := HSR.out
                  have hR : routeB xs fs sr ids = true := by rw [e1, e2]; exact h4
                  have hL : rlI xs fs sr ids = x := by rw [e1, e2]; exact h2.symm
                  rw [hR, hL]
                  have n2 : x ≥ 0 := h3
                  have n3 : (x != x) = false := by simp
                  clear hks h2 h3 h4 e1 e2 hR hL
                  go_wp2
                  go_roundw
                  case rel => exact ⟨k + 1, by omega, by go_num, H6⟩
                  case measure => simp [intOf]; omega
            · have iz : ¬ ((k : Int) < (D.length : Int)) := by rw [HDN.out]; omega
              have hs0 : valL D s = 0 := by
                rw [HDS.out]
                exact (distL_pos (q := goneF []) (by have := goodB_ends HG.out; rw [HXL.out] at this; exact this) (goodB_lensB HG.out) (s := s) (by omega) (v := s) (by omega)).1 rfl
              have va := HS.out.int_at 0 rfl (j := s) (by rw [HDN.out]; omega)
              rw [hs0] at va
              have is0 : (s : Int) < (D.length : Int) := by rw [HDN.out]; omega
              clear hs0 q0 q1
              go_wp2
              go_ret
              exact ⟨rfl, bl_then HB1.out HS.out.bl⟩
  · clear hS hx
    go_enter Try.func6, Try.ntmps6
    go_wp2_with go_in
    go_ret
    exact ⟨rfl, Below.refl _ _⟩
end Go.Proofs.Ytfepilpllfiegaa
