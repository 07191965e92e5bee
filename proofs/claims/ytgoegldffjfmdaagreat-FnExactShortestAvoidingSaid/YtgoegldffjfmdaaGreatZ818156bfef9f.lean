/- Lemmas and walks that the claim rests on, laid together. Conditions: none. -/
import Derived.Test.YtgoegldffjfmdaaGreatZa92f675dd247
import Derived.Test.YtgoegldffjfmdaaGreatZ5d5b1e381207
import Derived.Test.YtgoegldffjfmdaaGreatZe3e35d62457e
import Derived.Test.YtgoegldffjfmdaaGreatZ11e46bb6b321
import Derived.Test.YtgoegldffjfmdaaGreatZ72a8aeab9d7c
import Derived.Deep.RegionHeld3
/- slices.MinFunc at routes by the number of fibers, FewestFibers of the program, walked. Conditions: none. By minf.py. -/
namespace Go.Proofs.YtgoegldffjfmdaaGreat
open Go.RowKit
set_option maxRecDepth 100000 in
theorem fewC {s t : Int} {A B : Option Addr} {k l e d : Nat} (w : World) : Calls Tryz.prog 50 #[.agg #[.int .i64 s, .slice A k e], .agg #[.int .i64 t, .slice B l d]] w fun e w' => e = .returned (.int .i64 (cmpB (k : Int) (l : Int))) ∧ Below w.heap.size w w' := by
  have hS := ((Led.nil w).blk_ w.heap.size rfl 29 #[.int .i64 s, .slice A k e]).blk_ (w.heap.size + 1) (by simp) 29 #[.int .i64 t, .slice B l d]
  have q0 := hS.cell 1 1 rfl rfl
  have q1 := hS.cell 0 1 rfl rfl
  have hb := hS.bl
  clear hS
  go_enter Tryz.func50, Tryz.ntmps50
  go_wp2_with fail
  refine (compare_any _ _ _).mono ?_
  rintro e w1 ⟨rfl, rfl⟩
  go_wp2_with fail
  go_ret
  exact ⟨rfl, hb⟩
theorem mnF_row (o : Option (List Int)) (l : List (List Int)) (r : List Int) : (l ++ [r]).foldl mnF o = mnF (l.foldl mnF o) r := by rw [List.foldl_append]; rfl
section
variable {n c : Nat} {A : Option Addr} {ss : List (Int × Sl)} {rows : List (Int × List Int)}
set_option maxHeartbeats 4000000 in
set_option maxRecDepth 100000 in
theorem minFuncRS_any (w : World) (hA : SeesRS w A n ss rows) (hn1 : 1 ≤ n) (hn : n ≤ 1099511627776) :
    Calls Tryz.prog 49 #[.slice A n c, .func (.func 50) #[] #[]] w fun e w' => ∃ (q : Nat) (s : Int × Sl) (r : Int × List Int), ss[q]? = some s ∧ rows[q]? = some r ∧ mnO (rows.map (·.2)) = some r.2 ∧ e = .returned (.agg #[.int .i64 s.1, .slice s.2.A s.2.n s.2.c]) ∧ Below w.heap.size w w' := by
  have hlr : rows.length = n := by rw [← hA.2.1]; exact hA.1.len
  have HLR := hid hlr
  have HSL : Hid (ss.length = n) := hA.1.len
  obtain ⟨gb, go, rfl, _, hc⟩ := hA.1.at_ (k := 0) hn1
  obtain ⟨x0, hx0⟩ := get_of (k := 0) HLR.out hn1
  obtain ⟨s0, hs0⟩ := get_of (k := 0) HSL.out hn1
  have HA := hid hA
  have HCC : Hid (∀ (k : Nat) s, ss[k]? = some s → w.cell? ⟨gb, go + k * 2, none⟩ = some (.int .i64 s.1) ∧ w.cell? ⟨gb, go + k * 2 + 1, none⟩ = some (.slice s.2.A s.2.n s.2.c)) := fun k s hk => by
    have h0 := hc k s hk 0 _ rfl
    have h1 := hc k s hk 1 _ rfl
    simp only [elRt, Nat.add_zero, slV] at h0 h1
    exact ⟨h0, h1⟩
  have hS := ((Led.nil w).blk_ w.heap.size rfl 29 #[.int .i64 0, .slice none 0 0]).blk_ (w.heap.size + 1) (by simp) 29 #[.int .i64 0, .slice none 0 0]
  have q0 := bl_cell ((Led.nil w).blk_ w.heap.size rfl 29 #[.int .i64 0, .slice none 0 0]).bl (HCC.out 0 s0 hs0).1
  have q1 := bl_cell ((Led.nil w).blk_ w.heap.size rfl 29 #[.int .i64 0, .slice none 0 0]).bl (HCC.out 0 s0 hs0).2
  have q2 := bl_cell hS.bl (HCC.out 0 s0 hs0).1
  have q3 := bl_cell hS.bl (HCC.out 0 s0 hs0).2
  simp only [Nat.zero_mul, Nat.add_zero] at q0 q1 q2 q3
  have y0 := hS.cell 0 0 rfl rfl
  have y1 := hS.cell 0 1 rfl rfl
  have z0 := hS.frozen 0 0 rfl
  have z1 := hS.frozen 0 1 rfl
  have H0 := hid (((Led.nil w).blk_ w.heap.size rfl 29 #[.int .i64 0, .slice none 0 0]).blk_ (w.heap.size + 1) (by simp) 29 #[.int .i64 s0.1, .slice s0.2.A s0.2.n s0.2.c])
  have HS0 := hid hs0
  have HX0 := hid hx0
  have HM0 : Hid (((rows.take 1).map (·.2)).foldl mnF none = some x0.2) := by
    have : rows.take 1 = [x0] := by
      rw [List.take_add_one, hx0]; rfl
    rw [this]; rfl
  clear hlr hA hc hS hx0 hs0
  go_enter Tryz.func49, Tryz.ntmps49
  go_wp2_with fail
  clear q0 q1 q2 q3 y0 y1 z0 z1
  go_loopw [6] (fun i wr => ∃ (j q : Nat) (s : Int × Sl) (r : Int × List Int), 1 ≤ j ∧ j ≤ n ∧ i = .int .i64 j ∧ Hid (ss[q]? = some s) ∧ Hid (rows[q]? = some r) ∧ Hid (((rows.take j).map (·.2)).foldl mnF none = some r.2) ∧ Hid (Led w wr [tBlk (w.heap.size + 1) 29 #[.int .i64 s.1, .slice s.2.A s.2.n s.2.c], tBlk w.heap.size 29 #[.int .i64 0, .slice none 0 0]])) (fun i _ => n - (intOf i).toNat)
  case atStart => exact ⟨1, 0, s0, x0, Nat.le_refl _, hn1, rfl, HS0, HX0, HM0, H0⟩
  case round =>
    clear HS0 HX0 HM0 H0
    obtain ⟨j, q, s, r, hj1, hj, rfl, HSQ, HRQ, HM, HS⟩ := hrel
    by_cases hlt : j < n
    · obtain ⟨x, hx⟩ := get_of (k := j) HLR.out hlt
      obtain ⟨t, ht⟩ := get_of (k := j) HSL.out hlt
      have hxl := (HA.out.2.2 j t x ht hx).2.1
      have hrl := (HA.out.2.2 q s r HSQ.out HRQ.out).2.1
      have C0 : ∀ w', Cls wr w' → w'.cell? ⟨gb, go + j * 2, none⟩ = some (.int .i64 t.1) := fun _ h => h.cell (bl_cell HS.out.bl (HCC.out j t ht).1)
      have C1 : ∀ w', Cls wr w' → w'.cell? ⟨gb, go + j * 2 + 1, none⟩ = some (.slice t.2.A t.2.n t.2.c) := fun _ h => h.cell (bl_cell HS.out.bl (HCC.out j t ht).2)
      have C2 : ∀ w', Cls wr w' → w'.cell? ⟨w.heap.size + 1, 0, none⟩ = some (.int .i64 s.1) := fun _ h => h.cell (HS.out.cell 0 0 rfl rfl)
      have C3 : ∀ w', Cls wr w' → w'.cell? ⟨w.heap.size + 1, 1, none⟩ = some (.slice s.2.A s.2.n s.2.c) := fun _ h => h.cell (HS.out.cell 0 1 rfl rfl)
      obtain ⟨z, hz⟩ : ∃ z, cmpB (t.2.n : Int) (s.2.n : Int) = z := ⟨_, rfl⟩
      have HC : Hid (∀ w', Cls wr w' → Calls Tryz.prog 50 #[.agg #[.int .i64 t.1, .slice t.2.A t.2.n t.2.c], .agg #[.int .i64 s.1, .slice s.2.A s.2.n s.2.c]] w' fun e w2 => e = .returned (.int .i64 z) ∧ Below w'.heap.size w' w2) := fun w' _ => by rw [← hz]; exact fewC w'
      have htake : rows.take (j + 1) = rows.take j ++ [x] := by rw [List.take_add_one, hx]; rfl
      have hM2 : ((rows.take (j + 1)).map (·.2)).foldl mnF none = mnF (some r.2) x.2 := by
        rw [htake, List.map_append, List.map_cons, List.map_nil, mnF_row, HM.out]
      have hzz : z < 0 ↔ t.2.n < s.2.n := by rw [← hz]; unfold cmpB; split <;> (try split) <;> omega
      have ij0 : (0 : Int) ≤ (j : Int) := by omega
      have ij1 : (j : Int) < (n : Int) := by omega
      have HTJ := hid ht
      have HXJ := hid hx
      by_cases hc : t.2.n < s.2.n
      · have hz0 : z < 0 := hzz.2 hc
        have HM2 : Hid (((rows.take (j + 1)).map (·.2)).foldl mnF none = some x.2) := by unfold Hid; rw [hM2]; unfold mnF; simp; omega
        clear hz hzz hc hM2 htake hxl hrl ht hx
        go_wp2_with fail
        refine region_cls (by kernel_rfl) (by kernel_rfl) ?_
        repeat (first
          | ((with_reducible refine quiet_pos ?_ (fun K hK => ?_))
             · rfl
             apply Exists.intro
             refine ⟨fun w' hw' => ?_, ?_⟩
             · go_simp
               first
                 | with_reducible rfl
                 | go_at_call 50; with_reducible exact hw'.call (HC.out _ hw')
             simp only [Act.put, List.setIfInBounds_toArray, List.set_cons_zero, List.set_cons_succ]
             refine hK _ ?_; clear hK K)
          | ((with_reducible refine quiet_neg ?_ (fun K hK => ?_))
             · rfl
             simp only [Act.put, List.setIfInBounds_toArray, List.set_cons_zero, List.set_cons_succ]
             refine hK _ ?_; clear hK K))
        with_reducible refine wpQuiet_nil ?_
        intro wz hwz'
        have hS2 := HS.out.step hwz'
        have c0 := C0 wz hwz'
        have c1 := C1 wz hwz'
        have y0 := hS2.cell 0 0 rfl rfl
        have y1 := hS2.cell 0 1 rfl rfl
        have z0 := hS2.frozen 0 0 rfl
        have z1 := hS2.frozen 0 1 rfl
        have HS3 := hid ((hS2.set 0 rfl 0 (.int .i64 t.1)).set 0 rfl 1 (.slice t.2.A t.2.n t.2.c))
        clear hS2 C0 C1 C2 C3 HC hwz' HS
        go_wp2
        refine ⟨?_, by first | (simp [intOf]; done) | (simp [intOf]; omega)⟩
        first
          | exact ⟨j + 1, j, t, x, by omega, by omega, by go_num, HTJ, HXJ, HM2, HS3⟩
          | ((repeat apply Exists.intro); exact ⟨⟨j + 1, j, t, x, by omega, by omega, by go_num, HTJ, HXJ, HM2, HS3⟩, rfl⟩)
      · have hz0 : ¬ z < 0 := fun h => hc (hzz.1 h)
        have HM2 : Hid (((rows.take (j + 1)).map (·.2)).foldl mnF none = some r.2) := by unfold Hid; rw [hM2]; unfold mnF; simp; omega
        clear hz hzz hc hM2 htake hxl hrl ht hx
        go_wp2_with fail
        refine region_cls (by kernel_rfl) (by kernel_rfl) ?_
        repeat (first
          | ((with_reducible refine quiet_pos ?_ (fun K hK => ?_))
             · rfl
             apply Exists.intro
             refine ⟨fun w' hw' => ?_, ?_⟩
             · go_simp
               first
                 | with_reducible rfl
                 | go_at_call 50; with_reducible exact hw'.call (HC.out _ hw')
             simp only [Act.put, List.setIfInBounds_toArray, List.set_cons_zero, List.set_cons_succ]
             refine hK _ ?_; clear hK K)
          | ((with_reducible refine quiet_neg ?_ (fun K hK => ?_))
             · rfl
             simp only [Act.put, List.setIfInBounds_toArray, List.set_cons_zero, List.set_cons_succ]
             refine hK _ ?_; clear hK K))
        with_reducible refine wpQuiet_nil ?_
        intro wz hwz'
        have HS3 := hid (HS.out.step hwz')
        clear C0 C1 C2 C3 HC hwz' HS
        go_wp2
        refine ⟨?_, by first | (simp [intOf]; done) | (simp [intOf]; omega)⟩
        first
          | exact ⟨j + 1, q, s, r, by omega, by omega, by go_num, HSQ, HRQ, HM2, HS3⟩
          | ((repeat apply Exists.intro); exact ⟨⟨j + 1, q, s, r, by omega, by omega, by go_num, HSQ, HRQ, HM2, HS3⟩, rfl⟩)
    · have hjn : j = n := by omega
      have HM2 : Hid (mnO (rows.map (·.2)) = some r.2) := by
        have h1 := HM.out
        rw [hjn, List.take_of_length_le (by rw [HLR.out]; omega)] at h1
        exact h1
      have c0 := HS.out.cell 0 0 rfl rfl
      have c1 := HS.out.cell 0 1 rfl rfl
      have y0 := HS.out.cell 1 0 rfl rfl
      have y1 := HS.out.cell 1 1 rfl rfl
      have z0 := HS.out.frozen 1 0 rfl
      have z1 := HS.out.frozen 1 1 rfl
      have HS3 := hid ((HS.out.set 1 rfl 0 (.int .i64 s.1)).set 1 rfl 1 (.slice s.2.A s.2.n s.2.c))
      subst hjn
      go_wp2_with fail
      exact bodyPost_ret (v := .agg #[.int .i64 s.1, .slice s.2.A s.2.n s.2.c]) (by simp [results, Tryz.results49, go_sem, y0, y1]) rfl
        ⟨q, s, r, HSQ.out, HRQ.out, HM2.out, rfl, HS3.out.bl⟩
end
section
variable {n c m d : Nat} {A A' : Option Addr} {xs : List ByteArray} {fs : List Fib}
theorem mnO_in {l : List (List Int)} {r : List Int} (h : mnO l = some r) : r ∈ l := by
  unfold mnO at h
  suffices hh : ∀ (l : List (List Int)) (o : Option (List Int)), l.foldl mnF o = some r → o = some r ∨ r ∈ l by
    rcases hh l none h with h1 | h1
    · cases h1
    · exact h1
  intro l
  induction l with
  | nil => intro o h; exact .inl h
  | cons x l ih =>
    intro o h
    rcases ih _ h with h1 | h1
    · unfold mnF at h1
      split at h1
      · injection h1 with h1; exact .inr (h1 ▸ List.mem_cons_self)
      · split at h1
        · injection h1 with h1; exact .inr (h1 ▸ List.mem_cons_self)
        · exact .inl h1
    · exact .inr (List.mem_cons_of_mem _ h1)
theorem feO_len {f t : Int} : (frL (feO xs fs f t)).length ≤ 8 := by
  unfold feO
  cases g : mcB xs fs f t
  · exact Nat.zero_le _
  · have h2 := goodB_bd (mcB_parts g).1
    rw [if_pos rfl]
    cases h : mnO (srtR fs f (rbL fs xs.length f.toNat t.toNat)) with
    | none => exact Nat.zero_le _
    | some r =>
      have h3 := (rbL_ok r ((srtR_ok _).2.mem_iff.1 (mnO_in h))).1
      show r.length ≤ 8
      omega
theorem feO_same {f t : Nat} (h : shB xs fs (f : Int) (t : Int) = true) : mnO (srtR fs (f : Int) (rbL fs xs.length f t)) = feO xs fs (f : Int) (t : Int) := by
  unfold feO
  cases g : mcB xs fs (f : Int) (t : Int)
  · have e : (f : Int) = (t : Int) := by
      unfold mcB at g
      unfold shB at h
      rw [h] at g
      simpa using g
    have e2 : f = t := by omega
    subst e2
    unfold rbL
    rw [if_pos rfl]
    rfl
  · rfl
set_option maxHeartbeats 4000000 in
set_option maxRecDepth 100000 in
theorem implFewestFibers (f t : Int) (w : World) (h : NetIs w A n c A' m d xs fs) :
    Calls Tryz.prog 22 #[.agg #[.slice A n c, .slice A' m d], .int .i64 f, .int .i64 t] w fun e w' => ∃ R k, e = .returned (.tuple #[.agg #[.int .i64 (frS (feO xs fs f t) f), .slice R (frL (feO xs fs f t)).length k], .bool (feO xs fs f t).isSome]) ∧ Owns elInt w' w.heap.size 3 (.slice R (frL (feO xs fs f t)).length k) (frL (feO xs fs f t)) ∧ Below w.heap.size w w' := by
  have hS := (((Led.nil w).blk_ w.heap.size rfl 34 #[.slice A n c, .slice A' m d]).blk_ (w.heap.size + 1) (by simp) 29 #[.int .i64 0, .slice none 0 0]).blk_ (w.heap.size + 1 + 1) (by simp) 3 #[.int .i64 f, .int .i64 t]
  have hs2 : Sees elInt (((w.alloc (.cells #[.slice A n c, .slice A' m d] 34)).alloc (.cells #[.int .i64 0, .slice none 0 0] 29)).alloc (.cells #[.int .i64 f, .int .i64 t] 3)) (w.heap.size + 1 + 1 + 1) (some ⟨w.heap.size + 1 + 1, 0, none⟩) 2 [f, t] := by
    refine ⟨rfl, .inr ⟨_, _, rfl, Nat.lt_succ_self _, fun k x hx j u hu => ?_⟩⟩
    have hj : j = 0 := by have := (List.getElem?_eq_some_iff.1 hu).1; simp [elInt] at this; omega
    subst hj
    have hu' : Value.int .i64 x = u := by simpa [elInt] using hu
    subst hu'
    rcases k with _ | _ | k
    · simp at hx; subst hx; exact hS.cell 0 0 rfl rfl
    · simp at hx; subst hx; exact hS.cell 0 1 rfl rfl
    · simp at hx
  have HB : Hid (shB xs fs f t = (goodB xs fs && nodesB n [f, t])) := by unfold Hid shB; rw [nodesB_two, h.xlen, Bool.and_assoc (goodB xs fs)]
  obtain ⟨o, ho⟩ : ∃ o, feO xs fs f t = o := ⟨_, rfl⟩
  rw [ho]
  cases g : (goodB xs fs && nodesB n [f, t])
  · have HH : Hid (frS o f = 0 ∧ frL o = [] ∧ o.isSome = false) := by
      have : mcB xs fs f t = false := by
        have h1 := HB.out
        rw [g] at h1
        unfold mcB
        unfold shB at h1
        rw [h1]; rfl
      have h2 : o = none := by rw [← ho]; unfold feO; rw [this]; rfl
      rw [h2]; exact ⟨rfl, rfl, rfl⟩
    clear ho
    go_enter Tryz.func22, Tryz.ntmps22
    go_wp2_with fail
    refine (calls_bool (isNode_any _ (h.grow hS.bl) hs2 (by decide)) g).mono ?_
    rintro e w1 ⟨rfl, hb⟩
    have hS3 := hS.step hb
    have q0 := hS3.cell 1 0 rfl rfl
    have q1 := hS3.cell 1 1 rfl rfl
    have z0 := hS3.frozen 1 0 rfl
    have z1 := hS3.frozen 1 1 rfl
    have HS4 := hid ((hS3.set 1 rfl 0 (.int .i64 0)).set 1 rfl 1 (.slice none 0 0))
    clear hS3 hS hb hs2
    go_wp2_with fail
    exact bodyPost_ret (v := .tuple #[.agg #[.int .i64 0, .slice none 0 0], .bool false]) (by simp [results, Tryz.results22, go_sem, q0, q1]) rfl
      ⟨none, 0, by rw [HH.out.1, HH.out.2.1, HH.out.2.2]; rfl, by rw [HH.out.2.1]; exact World.ownsRow_nil _ _ _ _, HS4.out.bl⟩
  · have hsb : shB xs fs f t = true := by rw [HB.out, g]
    have hp := hsb
    unfold shB at hp
    rw [Bool.and_eq_true, Bool.and_eq_true] at hp
    have hf := inB_idx hp.1.2
    have ht := inB_idx hp.2
    have hg := hp.1.1
    rw [h.xlen] at hf ht
    obtain ⟨f', rfl⟩ : ∃ f' : Nat, f = (f' : Int) := ⟨f.toNat, by omega⟩
    obtain ⟨t', rfl⟩ : ∃ t' : Nat, t = (t' : Int) := ⟨t.toNat, by omega⟩
    rw [← feO_same hsb, h.xlen] at ho
    have HO := hid ho
    have HN := hid h
    obtain ⟨_, hn0, hn8, hm14⟩ := good_parts h hg
    have HLF := hid h.flen
    clear hp ho h hsb
    go_enter Tryz.func22, Tryz.ntmps22
    go_wp2_with fail
    refine (calls_bool (isNode_any _ (HN.out.grow hS.bl) hs2 (by decide)) g).mono ?_
    rintro e w1 ⟨rfl, hb⟩
    have hS3 := hS.step hb
    have q0 := hS3.cell 2 0 rfl rfl
    have q1 := hS3.cell 2 1 rfl rfl
    have HLT : Hid (w.heap.size + 1 < w1.heap.size) := by have := hb.size; simp at this; refine hid ?_; omega
    have HS3 := hid hS3
    clear hS hb hs2 hS3
    go_wp2_with fail
    refine (routesBetween_any _ (HN.out.grow HS3.out.bl) hg f' t' (by omega) (by omega)).mono ?_
    rintro e w2 ⟨v, ss, rows, rfl, hp, hpw, ho, hb2⟩
    have hrows := srtR_rows (D := rbL fs n f' t') hpw hp
    obtain ⟨A2, c2, hv, _, _, _⟩ := ho.1.form
    subst hv
    have hlen : ss.length = (rbL fs n f' t').length := by rw [ho.2.1, hrows, List.length_map]; exact (srtR_ok _).2.length_eq
    have hlen2 := rbL_len (fs := fs) (n := n) (s := f') (to := t') hn8 (by rw [HLF.out]; exact hm14)
    have hsnd : rows.map (·.2) = srtR fs (f' : Int) (rbL fs n f' t') := by rw [hrows, List.map_map]; exact List.map_id _
    have HOW := hid ho
    have HSN := hid hsnd
    have HFST : Hid (∀ r ∈ rows, r.1 = (f' : Int)) := fun r hr => by
      rw [hrows] at hr
      obtain ⟨q, _, rfl⟩ := List.mem_map.1 hr
      rfl
    have HS4 := hid (HS3.out.step hb2)
    have HB2 := hid hb2
    have hrl : rows.length = ss.length := ho.2.1.symm
    clear hp hpw hrows ho hsnd hb2 q0 q1
    by_cases h0 : ss.length = 0
    · have HH : Hid (frS o (f' : Int) = 0 ∧ frL o = [] ∧ o.isSome = false) := by
        have h2 : o = none := by
          rw [← HO.out, ← HSN.out]
          have : rows = [] := List.eq_nil_of_length_eq_zero (by omega)
          rw [this]; rfl
        rw [h2]; exact ⟨rfl, rfl, rfl⟩
      have r0 := HS4.out.cell 1 0 rfl rfl
      have r1 := HS4.out.cell 1 1 rfl rfl
      have z0 := HS4.out.frozen 1 0 rfl
      have z1 := HS4.out.frozen 1 1 rfl
      have HS5 := hid ((HS4.out.set 1 rfl 0 (.int .i64 0)).set 1 rfl 1 (.slice none 0 0))
      rw [h0]
      clear hlen hrl h0
      go_wp2_with fail
      exact bodyPost_ret (v := .tuple #[.agg #[.int .i64 0, .slice none 0 0], .bool false]) (by simp [results, Tryz.results22, go_sem, r0, r1]) rfl
        ⟨none, 0, by rw [HH.out.1, HH.out.2.1, HH.out.2.2]; rfl, by rw [HH.out.2.1]; exact World.ownsRow_nil _ _ _ _, HS5.out.bl⟩
    · have hne : ((ss.length : Int) == 0) = false := by rw [beq_eq_false_iff_ne]; omega
      have HMF := hid (minFuncRS_any (c := c2) w2 HOW.out.sees (by omega) (by omega))
      clear hlen hrl h0
      go_wp2_with fail
      refine HMF.out.mono ?_
      rintro e w3 ⟨q, s1, r, hs1, hr1, hmn, rfl, hb3⟩
      have h1 := HFST.out r (List.mem_of_getElem? hr1)
      obtain ⟨e1, how⟩ := HOW.out.2.2.1 q s1 r hs1 hr1
      obtain ⟨B, e5, hv, h5, _, _⟩ := how.form
      obtain ⟨s2, tA, tn, tc⟩ := s1
      simp only at e1
      rw [h1] at e1
      subst e1
      unfold slV at hv how
      injection hv with v1 v2 v3
      simp only at v1 v2 v3 how
      subst v1
      subst v2
      subst v3
      have hoo : o = some r.2 := by rw [← HO.out, ← HSN.out]; exact hmn
      have HH : Hid (frS o (f' : Int) = (f' : Int) ∧ frL o = r.2 ∧ o.isSome = true) := by rw [hoo]; exact ⟨rfl, rfl, rfl⟩
      have hS5 := HS4.out.step hb3
      have r0 := hS5.cell 1 0 rfl rfl
      have r1 := hS5.cell 1 1 rfl rfl
      have z0 := hS5.frozen 1 0 rfl
      have z1 := hS5.frozen 1 1 rfl
      have HS6 := hid ((hS5.set 1 rfl 0 (.int .i64 (f' : Int))).set 1 rfl 1 (.slice tA r.2.length tc))
      have HSZ := hid ((((how.below hb3).far (p := ⟨w.heap.size + 1, 0, none⟩) HLT.out (.int .i64 (f' : Int))).far (p := ⟨w.heap.size + 1, 1, none⟩) HLT.out (.slice tA r.2.length tc)).base (base' := w.heap.size) (by have := HLT.out; omega))
      clear hS5 HMF hb3 how hmn hoo hr1 hs1
      go_wp2_with fail
      exact bodyPost_ret (v := .tuple #[.agg #[.int .i64 (f' : Int), .slice tA r.2.length tc], .bool true]) (by simp [results, Tryz.results22, go_sem, r0, r1]) rfl
        ⟨tA, tc, by rw [HH.out.1, HH.out.2.1, HH.out.2.2], by rw [HH.out.2.1]; exact HSZ.out, HS6.out.bl⟩
end
end Go.Proofs.YtgoegldffjfmdaaGreat
/- ShortestAvoiding of both sides, walked. Conditions: none. By avo.py. -/
namespace Go.Proofs.YtgoegldffjfmdaaGreat
open Go.RowKit
/-- Are network, nodes and fibers such that a route is asked for? -/
def avB (xs : List ByteArray) (fs : List Fib) (f t : Int) (l : List Int) : Bool := mcB xs fs f t && risB 0 ((fs.length : Int) - 1) l
def avO (xs : List ByteArray) (fs : List Fib) (f t : Int) (l : List Int) : Option (List Int) := if avB xs fs f t l then frO fs xs.length f.toNat t.toNat (avQ (goneF l)) else none
theorem avO_len {xs : List ByteArray} {fs : List Fib} {f t : Int} {l : List Int} : (frL (avO xs fs f t l)).length ≤ 8 := by
  unfold avO
  cases g : avB xs fs f t l
  · exact Nat.zero_le _
  · unfold avB at g
    rw [Bool.and_eq_true] at g
    have h1 := (frO_ok (fs := fs) (n := xs.length) (s := f.toNat) (to := t.toNat) (p := avQ (goneF l))).1
    have h2 := goodB_bd (mcB_parts g.1).1
    rw [if_pos rfl]; omega
/-- No common fiber. -/
theorem avQ_com {r l : List Int} (h : ∀ x ∈ r, 0 ≤ x) : avQ (goneF l) r = decide ((comL r l).length = 0) := by
  have hm := (comL_asc r l).2
  rw [Bool.eq_iff_iff, decide_eq_true_eq]
  unfold avQ goneF
  rw [List.all_eq_true]
  constructor
  · intro h1
    rcases hl : comL r l with _ | ⟨x, tl⟩
    · rfl
    · have hx := (hm x).1 (by rw [hl]; exact List.mem_cons_self)
      have h2 := h1 x hx.1
      have h3 := h x hx.1
      rw [Bool.not_eq_true', Bool.eq_false_iff] at h2
      exact absurd (hasB_iff.2 (by rw [show ((x.toNat : Nat) : Int) = x by omega]; exact hx.2)) h2
  · intro h1 x hx
    have h0 := h x hx
    rw [Bool.not_eq_true', Bool.eq_false_iff]
    intro h2
    have h3 := hasB_iff.1 h2
    rw [show ((x.toNat : Nat) : Int) = x by omega] at h3
    have h4 := (hm x).2 ⟨hx, h3⟩
    rw [List.eq_nil_of_length_eq_zero h1] at h4
    cases h4
theorem av_no {xs : List ByteArray} {fs : List Fib} {f t : Int} {l : List Int} (h : avB xs fs f t l = false) : avO xs fs f t l = none := by unfold avO; rw [h]; rfl
theorem nodes_mc {xs : List ByteArray} {fs : List Fib} {f t : Int} (h : (goodB xs fs && nodesB xs.length [f, t]) = false) : mcB xs fs f t = false := by
  rw [nodesB_two, ← Bool.and_assoc] at h
  unfold mcB
  rw [h]; rfl
section
variable {n c m d cg : Nat} {A A' G : Option Addr} {xs : List ByteArray} {fs : List Fib} {l : List Int}
set_option maxHeartbeats 2000000 in
set_option maxRecDepth 100000 in
theorem avoC {gV e BG : Nat} {B : Option Addr} {r : List Int} {s : Int} (w : World) (hV : Blk w gV 26 #[.slice G l.length cg]) (hG : Sees elInt w BG G l.length l) (hl : l.length ≤ 1048576) (hr : RtIs w B r.length e r) (h0 : ∀ x ∈ r, 0 ≤ x) :
    Calls Tryz.prog 33 #[.agg #[.int .i64 s, .slice B r.length e], .pointer (some ⟨gV, 0, none⟩)] w fun e w' => e = .returned (.bool (avQ (goneF l) r)) ∧ Below w.heap.size w w' := by
  have hS := (Led.nil w).blk_ w.heap.size rfl 29 #[.int .i64 s, .slice B r.length e]
  have hb0 := hS.bl
  have q1 := bl_cell hb0 (hV.cell 0)
  have q2 := hS.cell 0 0 rfl rfl
  have q3 := hS.cell 0 1 rfl rfl
  have hle := hr.le
  have HC := hid (avQ_com (l := l) h0)
  have HGR := hid (hr.2.grow hb0)
  have HGL := hid (hG.grow hb0)
  clear hV hG hr h0
  go_enter Tryz.func33, Tryz.ntmps33
  go_wp2_with fail
  refine (common_any _ HGR.out HGL.out (by omega) hl).mono ?_
  rintro e w1 ⟨v, rfl, ho, hb⟩
  obtain ⟨A2, c2, rfl, _, _, _⟩ := ho.form
  have HZ := hid (bl_then hb0 hb)
  have HE : Hid (avQ (goneF l) r = (((comL r l).length : Int) == 0)) := by
    unfold Hid
    rw [HC.out, Bool.eq_iff_iff]
    simp
  clear ho hb hb0 hS q1 q2 q3 HGR HGL HC hle hl
  go_wp2_with fail
  go_ret
  exact ⟨by rw [HE.out]; rfl, HZ.out⟩
set_option maxHeartbeats 4000000 in
set_option maxRecDepth 100000 in
theorem implShortestAvoiding (f t : Int) (w : World) (h : NetIs w A n c A' m d xs fs) (hG : Sees elInt w w.heap.size G l.length l) (hl : l.length ≤ 1048576) :
    Calls Tryz.prog 9 #[.agg #[.slice A n c, .slice A' m d], .int .i64 f, .int .i64 t, .slice G l.length cg] w fun e w' => ∃ R k, e = .returned (.tuple #[.agg #[.int .i64 (frS (avO xs fs f t l) f), .slice R (frL (avO xs fs f t l)).length k], .bool (avO xs fs f t l).isSome]) ∧ Owns elInt w' w.heap.size 3 (.slice R (frL (avO xs fs f t l)).length k) (frL (avO xs fs f t l)) ∧ Below w.heap.size w w' := by
  have hS := ((((Led.nil w).blk_ w.heap.size rfl 34 #[.slice A n c, .slice A' m d]).blk_ (w.heap.size + 1) (by simp) 26 #[.slice G l.length cg]).blk_ (w.heap.size + 1 + 1) (by simp) 29 #[.int .i64 0, .slice none 0 0]).blk_ (w.heap.size + 1 + 1 + 1) (by simp) 3 #[.int .i64 f, .int .i64 t]
  have hs2 : Sees elInt ((((w.alloc (.cells #[.slice A n c, .slice A' m d] 34)).alloc (.cells #[.slice G l.length cg] 26)).alloc (.cells #[.int .i64 0, .slice none 0 0] 29)).alloc (.cells #[.int .i64 f, .int .i64 t] 3)) (w.heap.size + 1 + 1 + 1 + 1) (some ⟨w.heap.size + 1 + 1 + 1, 0, none⟩) 2 [f, t] := by
    refine ⟨rfl, .inr ⟨_, _, rfl, Nat.lt_succ_self _, fun k x hx j u hu => ?_⟩⟩
    have hj : j = 0 := by have := (List.getElem?_eq_some_iff.1 hu).1; simp [elInt] at this; omega
    subst hj
    have hu' : Value.int .i64 x = u := by simpa [elInt] using hu
    subst hu'
    rcases k with _ | _ | k
    · simp at hx; subst hx; exact hS.cell 0 0 rfl rfl
    · simp at hx; subst hx; exact hS.cell 0 1 rfl rfl
    · simp at hx
  obtain ⟨o, ho⟩ : ∃ o, avO xs fs f t l = o := ⟨_, rfl⟩
  rw [ho]
  have HN := hid h
  have HGL := hid hG
  cases g : (goodB xs fs && nodesB n [f, t])
  · have HH : Hid (frS o f = 0 ∧ frL o = [] ∧ o.isSome = false) := by
      have h1 : avB xs fs f t l = false := by unfold avB; rw [nodes_mc (by rw [h.xlen]; exact g)]; rfl
      rw [← ho, av_no h1]; exact ⟨rfl, rfl, rfl⟩
    clear ho h hG
    go_enter Tryz.func9, Tryz.ntmps9
    go_wp2_with fail
    refine (calls_bool (isNode_any _ (HN.out.grow hS.bl) hs2 (by decide)) g).mono ?_
    rintro e w1 ⟨rfl, hb⟩
    have hS3 := hS.step hb
    have r0 := hS3.cell 1 0 rfl rfl
    have r1 := hS3.cell 1 1 rfl rfl
    have z0 := hS3.frozen 1 0 rfl
    have z1 := hS3.frozen 1 1 rfl
    have HS4 := hid ((hS3.set 1 rfl 0 (.int .i64 0)).set 1 rfl 1 (.slice none 0 0))
    clear hS3 hS hb hs2
    go_wp2_with fail
    exact bodyPost_ret (v := .tuple #[.agg #[.int .i64 0, .slice none 0 0], .bool false]) (by simp [results, Tryz.results9, go_sem, r0, r1]) rfl
      ⟨none, 0, by rw [HH.out.1, HH.out.2.1, HH.out.2.2]; rfl, by rw [HH.out.2.1]; exact World.ownsRow_nil _ _ _ _, HS4.out.bl⟩
  · have hm14 := h.mle
    cases g2 : risB 0 ((m : Int) - 1) l
    · have HH : Hid (frS o f = 0 ∧ frL o = [] ∧ o.isSome = false) := by
        have h1 : avB xs fs f t l = false := by unfold avB; rw [h.flen, g2, Bool.and_false]
        rw [← ho, av_no h1]; exact ⟨rfl, rfl, rfl⟩
      clear ho h hG
      go_enter Tryz.func9, Tryz.ntmps9
      go_wp2_with fail
      refine (calls_bool (isNode_any _ (HN.out.grow hS.bl) hs2 (by decide)) g).mono ?_
      rintro e w1 ⟨rfl, hb⟩
      have hS3 := hS.step hb
      have q0 := hS3.cell 3 1 rfl rfl
      have q2 := hS3.cell 2 0 rfl rfl
      have r0 := hS3.cell 1 0 rfl rfl
      have r1 := hS3.cell 1 1 rfl rfl
      have z0 := hS3.frozen 1 0 rfl
      have z1 := hS3.frozen 1 1 rfl
      have HS4 := hid ((hS3.set 1 rfl 0 (.int .i64 0)).set 1 rfl 1 (.slice none 0 0))
      have HIS := isSet_any (c := cg) m w1 (HGL.out.grow hS3.bl) hl hm14
      rw [g2] at HIS
      replace HIS := hid HIS
      clear hS3 hS hb hs2 hl hm14
      go_wp2_with fail
      refine HIS.out.mono ?_
      rintro e w2 ⟨rfl, rfl⟩
      clear HIS
      go_wp2_with fail
      exact bodyPost_ret (v := .tuple #[.agg #[.int .i64 0, .slice none 0 0], .bool false]) (by simp [results, Tryz.results9, go_sem, r0, r1]) rfl
        ⟨none, 0, by rw [HH.out.1, HH.out.2.1, HH.out.2.2]; rfl, by rw [HH.out.2.1]; exact World.ownsRow_nil _ _ _ _, HS4.out.bl⟩
    · have hp := g
      rw [nodesB_two, Bool.and_eq_true, Bool.and_eq_true] at hp
      have hf := inB_idx hp.2.1
      have ht := inB_idx hp.2.2
      have hg := hp.1
      obtain ⟨f', rfl⟩ : ∃ f' : Nat, f = (f' : Int) := ⟨f.toNat, by omega⟩
      obtain ⟨t', rfl⟩ : ∃ t' : Nat, t = (t' : Int) := ⟨t.toNat, by omega⟩
      have HO : Hid (frO fs n f' t' (avQ (goneF l)) = o) := by
        unfold Hid
        rw [← ho]
        by_cases hne : f' = t'
        · subst hne
          have e1 : frO fs n f' f' (avQ (goneF l)) = none := by
            unfold frO rbL
            rw [if_pos rfl]; rfl
          have e2 : avB xs fs (f' : Int) (f' : Int) l = false := by unfold avB mcB; simp
          rw [e1, av_no e2]
        · have e2 : avB xs fs (f' : Int) (t' : Int) l = true := by
            unfold avB mcB
            rw [h.flen, g2, h.xlen, hp.1, hp.2.1, hp.2.2]
            simp; omega
          unfold avO
          rw [e2, h.xlen]; rfl
      clear ho h hG hp
      go_enter Tryz.func9, Tryz.ntmps9
      go_wp2_with fail
      refine (calls_bool (isNode_any _ (HN.out.grow hS.bl) hs2 (by decide)) g).mono ?_
      rintro e w1 ⟨rfl, hb⟩
      have hS3 := hS.step hb
      have q0 := hS3.cell 3 0 rfl rfl
      have q1 := hS3.cell 3 1 rfl rfl
      have q2 := hS3.cell 2 0 rfl rfl
      have HIS := isSet_any (c := cg) m w1 (HGL.out.grow hS3.bl) hl hm14
      rw [g2] at HIS
      replace HIS := hid HIS
      have HLT3 : Hid (w.heap.size + 1 + 1 < w1.heap.size) := by have := hb.size; simp at this; refine hid ?_; omega
      have hBV : Blk w1 (w.heap.size + 1) 26 #[.slice G l.length cg] := hS3.get 2 rfl
      have HF := hid (firstRoute_any (F := 33) (cap := #[.pointer (some ⟨w.heap.size + 1, 0, none⟩)]) (avQ (goneF l)) w1 (HN.out.grow hS3.bl) hg f' t' (by omega) (by omega) (fun _ _ => by rfl) (fun w' B r e hcl hrn hri hrm hre hsee => avoC w' (hBV.below hcl hBV.lt) ((HGL.out.grow hS3.bl).grow hcl) hl ⟨⟨hre, by have := (good_parts HN.out hg).2.2.1; omega⟩, hsee⟩ (fun x hx => (hri x hx).1)))
      rw [HO.out] at HF
      have HS3 := hid hS3
      clear hS3 hS hb hs2 hl hm14 hBV
      go_wp2_with fail
      refine HIS.out.mono ?_
      rintro e w2 ⟨rfl, rfl⟩
      clear HIS
      go_wp2_with fail
      refine HF.out.mono ?_
      rintro e w4 ⟨R, k, rfl, ho2, hb2⟩
      have hS4 := HS3.out.step hb2
      have r0 := hS4.cell 1 0 rfl rfl
      have r1 := hS4.cell 1 1 rfl rfl
      have z0 := hS4.frozen 1 0 rfl
      have z1 := hS4.frozen 1 1 rfl
      have HS5 := hid ((hS4.set 1 rfl 0 (.int .i64 (frS o (f' : Int)))).set 1 rfl 1 (.slice R (frL o).length k))
      have HSZ := hid (((ho2.far (p := ⟨w.heap.size + 1 + 1, 0, none⟩) HLT3.out (.int .i64 (frS o (f' : Int)))).far (p := ⟨w.heap.size + 1 + 1, 1, none⟩) HLT3.out (.slice R (frL o).length k)).base (base' := w.heap.size) (by have := HLT3.out; omega))
      clear hS4 HF q0 q1 q2 hb2 ho2
      go_wp2_with fail
      exact bodyPost_ret (v := .tuple #[.agg #[.int .i64 (frS o (f' : Int)), .slice R (frL o).length k], .bool o.isSome]) (by simp [results, Tryz.results9, go_sem, r0, r1]) rfl
        ⟨R, k, rfl, HSZ.out, HS5.out.bl⟩
set_option maxHeartbeats 4000000 in
set_option maxRecDepth 100000 in
theorem specShortestAvoiding (f t : Int) (w : World) (h : NetIs w A n c A' m d xs fs) (hG : Sees elInt w w.heap.size G l.length l) (hl : l.length ≤ 1048576) :
    Calls Tryz.prog 6 #[.agg #[.slice A n c, .slice A' m d], .int .i64 f, .int .i64 t, .slice G l.length cg] w fun e w' => ∃ R k, e = .returned (.tuple #[.agg #[.int .i64 (frS (avO xs fs f t l) f), .slice R (frL (avO xs fs f t l)).length k], .bool (avO xs fs f t l).isSome]) ∧ Owns elInt w' w.heap.size 3 (.slice R (frL (avO xs fs f t l)).length k) (frL (avO xs fs f t l)) ∧ Below w.heap.size w w' := by
  have hS := ((Led.nil w).blk_ w.heap.size rfl 34 #[.slice A n c, .slice A' m d]).blk_ (w.heap.size + 1) (by simp) 29 #[.int .i64 0, .slice none 0 0]
  obtain ⟨o, ho⟩ : ∃ o, avO xs fs f t l = o := ⟨_, rfl⟩
  rw [ho]
  have HN := hid h
  have HGL := hid hG
  have hm := h.mle
  cases g : mcB xs fs f t
  · have HH : Hid (frS o f = 0 ∧ frL o = [] ∧ o.isSome = false) := by
      have h1 : avB xs fs f t l = false := by unfold avB; rw [g]; rfl
      rw [← ho, av_no h1]; exact ⟨rfl, rfl, rfl⟩
    clear ho h hG
    go_enter Tryz.func6, Tryz.ntmps6
    go_wp2_with fail
    refine (l4Pair_any f t _ (HN.out.grow hS.bl)).mono ?_
    rintro e w1 ⟨rfl, hb⟩
    rw [g]
    have hS3 := hS.step hb
    have r0 := hS3.cell 0 0 rfl rfl
    have r1 := hS3.cell 0 1 rfl rfl
    have z0 := hS3.frozen 0 0 rfl
    have z1 := hS3.frozen 0 1 rfl
    have HS4 := hid ((hS3.set 0 rfl 0 (.int .i64 0)).set 0 rfl 1 (.slice none 0 0))
    clear hS3 hS hb
    go_wp2_with fail
    exact bodyPost_ret (v := .tuple #[.agg #[.int .i64 0, .slice none 0 0], .bool false]) (by simp [results, Tryz.results6, go_sem, r0, r1]) rfl
      ⟨none, 0, by rw [HH.out.1, HH.out.2.1, HH.out.2.2]; rfl, by rw [HH.out.2.1]; exact World.ownsRow_nil _ _ _ _, HS4.out.bl⟩
  · obtain ⟨hg, hf, ht, hne⟩ := mcB_parts g
    rw [h.xlen] at hf ht
    obtain ⟨f', rfl⟩ : ∃ f' : Nat, f = (f' : Int) := ⟨f.toNat, by omega⟩
    obtain ⟨t', rfl⟩ : ∃ t' : Nat, t = (t' : Int) := ⟨t.toNat, by omega⟩
    have iw : IntKind.i64.wrap ((m : Int) - 1) = (m : Int) - 1 := IntWalk.i64_in _ (by omega)
    cases g2 : risB 0 ((m : Int) - 1) l
    · have HH : Hid (frS o (f' : Int) = 0 ∧ frL o = [] ∧ o.isSome = false) := by
        have h1 : avB xs fs (f' : Int) (t' : Int) l = false := by unfold avB; rw [h.flen, g2, Bool.and_false]
        rw [← ho, av_no h1]; exact ⟨rfl, rfl, rfl⟩
      clear ho h hG
      have HG := hid g
      go_enter Tryz.func6, Tryz.ntmps6
      go_wp2_with fail
      refine (l4Pair_any _ _ _ (HN.out.grow hS.bl)).mono ?_
      rintro e w1 ⟨rfl, hb⟩
      rw [HG.out]
      replace hS := hS.step hb
      have p1 := hS.cell 1 1 rfl rfl
      clear hb
      go_wp2_with fail
      refine (l1Rising_any 0 ((m : Int) - 1) _ (HGL.out.grow hS.bl) hl).mono ?_
      rintro e w3 ⟨rfl, hb⟩
      rw [g2]
      have hS3 := hS.step hb
      have r0 := hS3.cell 0 0 rfl rfl
      have r1 := hS3.cell 0 1 rfl rfl
      have z0 := hS3.frozen 0 0 rfl
      have z1 := hS3.frozen 0 1 rfl
      have HS4 := hid ((hS3.set 0 rfl 0 (.int .i64 0)).set 0 rfl 1 (.slice none 0 0))
      clear hS3 hS hb p1
      go_wp2_with fail
      exact bodyPost_ret (v := .tuple #[.agg #[.int .i64 0, .slice none 0 0], .bool false]) (by simp [results, Tryz.results6, go_sem, r0, r1]) rfl
        ⟨none, 0, by rw [HH.out.1, HH.out.2.1, HH.out.2.2]; rfl, by rw [HH.out.2.1]; exact World.ownsRow_nil _ _ _ _, HS4.out.bl⟩
    · have he := (good_parts h hg).1
      have HO : Hid (l5O l false fs n f' t' = o) := by
        unfold Hid
        rw [← ho, l5O_av he (lens5_pos (goodB_lens5 hg)) (by omega) (by omega)]
        have e2 : avB xs fs (f' : Int) (t' : Int) l = true := by unfold avB; rw [g, h.flen, g2]; rfl
        unfold avO
        rw [e2, h.xlen]; rfl
      clear ho h hG he
      have HG := hid g
      go_enter Tryz.func6, Tryz.ntmps6
      go_wp2_with fail
      refine (l4Pair_any _ _ _ (HN.out.grow hS.bl)).mono ?_
      rintro e w1 ⟨rfl, hb⟩
      rw [HG.out]
      have HLT : Hid (w.heap.size + 1 < w1.heap.size) := by have := hb.size; simp at this; refine hid ?_; omega
      replace hS := hS.step hb
      have p1 := hS.cell 1 1 rfl rfl
      clear hb
      go_wp2_with fail
      refine (l1Rising_any 0 ((m : Int) - 1) _ (HGL.out.grow hS.bl) hl).mono ?_
      rintro e w3 ⟨rfl, hb⟩
      rw [g2]
      have hS3 := hS.step hb
      have p0 := hS3.cell 1 0 rfl rfl
      have p2 := hS3.cell 1 1 rfl rfl
      have HLT3 : Hid (w.heap.size + 1 < w3.heap.size) := by have h1 := hb.size; have h2 := HLT.out; refine hid ?_; omega
      have HF := hid (l5First_any (cg := cg) (wl := l) (gk := l.length) _ (HN.out.grow hS3.bl) hg f' t' (by omega) (by omega) ((HGL.out.grow hS3.bl).more hS3.bl.size) hl false)
      rw [HO.out] at HF
      have HS3 := hid hS3
      clear hS hb hS3 p1
      go_wp2_with fail
      refine HF.out.mono ?_
      rintro e w2 ⟨R, k, rfl, ho2, hb2⟩
      have hS4 := HS3.out.step hb2
      have r0 := hS4.cell 0 0 rfl rfl
      have r1 := hS4.cell 0 1 rfl rfl
      have z0 := hS4.frozen 0 0 rfl
      have z1 := hS4.frozen 0 1 rfl
      have HS5 := hid ((hS4.set 0 rfl 0 (.int .i64 (frS o (f' : Int)))).set 0 rfl 1 (.slice R (frL o).length k))
      have HSZ := hid (((ho2.far (p := ⟨w.heap.size + 1, 0, none⟩) HLT3.out (.int .i64 (frS o (f' : Int)))).far (p := ⟨w.heap.size + 1, 1, none⟩) HLT3.out (.slice R (frL o).length k)).base (base' := w.heap.size) (by have := HLT3.out; omega))
      clear hS4 HF hb2 ho2 p0 p2
      go_wp2_with fail
      exact bodyPost_ret (v := .tuple #[.agg #[.int .i64 (frS o (f' : Int)), .slice R (frL o).length k], .bool o.isSome]) (by simp [results, Tryz.results6, go_sem, r0, r1]) rfl
        ⟨R, k, rfl, HSZ.out, HS5.out.bl⟩
end
end Go.Proofs.YtgoegldffjfmdaaGreat
/- FnExactShortestAvoiding, walked. Conditions: none. -/
namespace Go.Proofs.YtgoegldffjfmdaaGreat.fnExactShortestAvoiding
open Go.RowKit
set_option maxHeartbeats 2000000 in
set_option maxRecDepth 100000 in
theorem walk (w : World) {A0 E0 : Option Addr} {n0 c0 m0 d0 : Nat} {xs0 : List ByteArray} {fs0 : List Fib} (h0 : NetArg w A0 n0 c0 E0 m0 d0 xs0 fs0) {a1 : Int} (_u1 : -9223372036854775808 ≤ a1 ∧ a1 ≤ 9223372036854775807) {a2 : Int} (_u2 : -9223372036854775808 ≤ a2 ∧ a2 ≤ 9223372036854775807) {A3 : Option Addr} {k3 c3 : Nat} {l3 : List Int} (h3 : IntsArg w A3 k3 c3 l3) :
    Calls Tryz.prog 3 #[.agg #[.slice A0 n0 c0, .slice E0 m0 d0], .int .i64 a1, .int .i64 a2, .slice A3 k3 c3] w fun e w' => e = .returned (.bool true) ∧ Below w.heap.size w w' := by
  obtain ⟨⟨h0nc, h0cm, h0A, h0x⟩, ⟨h0md, h0dm, h0F, _⟩⟩ := h0
  obtain ⟨h3nc, h3cm, h3A, _⟩ := h3
  obtain rfl := h3A.len
  have hS := Led.nil w
  replace hS := hS.blk_ (w.heap.size) (by simp) 25 #[.slice A0 n0 c0, .slice E0 m0 d0]
  by_cases h3n : l3.length ≤ 1048576
  case neg =>
    go_enter Tryz.func3, Tryz.ntmps3
    go_wp2
    go_ret
    exact ⟨rfl, hS.bl⟩
  obtain ⟨r0, hr0⟩ : ∃ r, r = lessI 1048576 (netTot xs0 fs0) := ⟨_, rfl⟩
  have hlb0 := lessI_bd (left := 1048576) (t := (netTot xs0 fs0))
  rw [← hr0] at hlb0
  have HR0 := hid hr0
  clear hr0
  rcases hlb0 with ⟨hz0, _⟩ | ⟨hz0, hy0, hx0⟩
  case inl =>
    subst hz0
    go_enter Tryz.func3, Tryz.ntmps3
    go_wp2_with fail
    refine (szNetwork_any 1048576 _ (h0A.below hS.bl) (h0F.below hS.bl) hS.bl.size (by omega) (by omega) h0x (by omega) (by omega)).mono ?_
    rintro e W1 ⟨rfl, hb⟩; replace hS := hS.step hb; clear hb
    rw [← HR0.out]
    go_wp2_with fail
    go_ret
    exact ⟨rfl, hS.bl⟩
  have h0n : n0 ≤ 1048576 := by have := h0A.len; unfold netTot strTot at hx0; omega
  have h0m : m0 ≤ 1048576 := by have := h0F.len; unfold netTot strTot at hx0; omega
  have h0I := hid (show NetIs w A0 n0 c0 E0 m0 d0 xs0 fs0 from ⟨⟨h0nc, h0n⟩, ⟨h0md, h0m⟩, h0A, h0F, h0x⟩)
  clear hx0
  have h3I := hid h3A
  go_enter Tryz.func3, Tryz.ntmps3
  go_wp2_with fail
  refine (szNetwork_any 1048576 _ (h0A.below hS.bl) (h0F.below hS.bl) hS.bl.size (by omega) (by omega) h0x (by omega) (by omega)).mono ?_
  rintro e W1 ⟨rfl, hb⟩; replace hS := hS.step hb; clear hb
  rw [← HR0.out]
  -- the reference
  have q0 := hS.cell 0 0 rfl rfl
  have q1 := hS.cell 0 1 rfl rfl
  go_wp2_with fail
  refine (toNetwork_own _ (h0I.out.grow hS.bl).strs (h0I.out.grow hS.bl).fibs (Nat.le_refl _) h0n h0m).mono ?_
  rintro e W2 ⟨Aw0, cw0, Ew0, dw0, rfl, ho, hb⟩
  replace hS := hS.net hb ho
  clear hb ho
  clear q0 q1
  go_wp2_with fail
  refine (toIntS_any _ (h3I.out.grow hS.bl) h3n).mono ?_
  rintro e W3 ⟨v, rfl, ho, hb⟩
  obtain ⟨Aw3, cw3, rfl, _, _, _⟩ := ho.form
  replace hS := hS.owns hb ho
  clear hb ho
  go_wp2_with fail
  refine (specShortestAvoiding a1 a2 _ (hS.netIs 1 rfl h0n h0m h0x) (hS.seesI 0 rfl) h3n).mono ?_
  rintro e W4 ⟨Aw0, cw0, rfl, ho0, hb⟩
  have hlen0 := hid ((Nat.le_trans avO_len (by decide) : (frL (avO xs0 fs0 a1 a2 l3)).length ≤ 1048576))
  generalize hL0 : frL (avO xs0 fs0 a1 a2 l3) = L0 at *
  replace hS := hS.owns hb ho0
  clear hb ho0
  replace hS := hS.blk_ (W4.heap.size) (by simp) 29 #[.int .i64 (frS (avO xs0 fs0 a1 a2 l3) a1), .slice Aw0 L0.length cw0]
  -- the program on copies that are kept
  have q0 := hS.cell 4 0 rfl rfl
  have q1 := hS.cell 4 1 rfl rfl
  go_wp2_with fail
  refine (toNetwork_own _ (h0I.out.grow hS.bl).strs (h0I.out.grow hS.bl).fibs (Nat.le_refl _) h0n h0m).mono ?_
  rintro e W5 ⟨Ax0, cx0, Ex0, dx0, rfl, ho, hb⟩
  replace hS := hS.net hb ho
  clear hb ho
  clear q0 q1
  replace hS := hS.blk_ (W5.heap.size) (by simp) 34 #[.slice Ax0 n0 cx0, .slice Ex0 m0 dx0]
  go_wp2_with fail
  refine (toIntS_any _ (h3I.out.grow hS.bl) h3n).mono ?_
  rintro e W6 ⟨v, rfl, ho, hb⟩
  obtain ⟨Ax3, cx3, rfl, _, _, _⟩ := ho.form
  replace hS := hS.owns hb ho
  clear hb ho
  have q0 := hS.cell 1 0 rfl rfl
  have q1 := hS.cell 1 1 rfl rfl
  go_wp2_with fail
  refine (implShortestAvoiding a1 a2 _ (hS.netIs 2 rfl h0n h0m h0x) (hS.seesI 0 rfl) h3n).mono ?_
  rintro e W7 ⟨Ag0, cg0, rfl, ho0, hb⟩
  rw [hL0] at ho0
  replace hS := hS.owns hb ho0
  clear hb ho0
  clear q0 q1
  replace hS := hS.blk_ (W7.heap.size) (by simp) 29 #[.int .i64 (frS (avO xs0 fs0 a1 a2 l3) a1), .slice Ag0 L0.length cg0]
  -- the results are equal
  have q0 := hS.cell 5 0 rfl rfl
  have q1 := hS.cell 5 1 rfl rfl
  go_wp2_with fail
  refine (eqR_led hS 1 6 rfl rfl (frS (avO xs0 fs0 a1 a2 l3) a1) hlen0.out).mono ?_
  rintro e W8 ⟨rfl, hS1⟩; replace hS := hS1; clear hS1
  clear q0 q1
  -- the arguments are as they were
  have C0 : ∀ w', Cls W8 w' → w'.cell? ⟨w.heap.size, 0, none⟩ = some (.slice A0 n0 c0) := fun _ h => h.cell (hS.cell 9 0 rfl rfl)
  have C1 : ∀ w', Cls W8 w' → w'.cell? ⟨w.heap.size, 1, none⟩ = some (.slice E0 m0 d0) := fun _ h => h.cell (hS.cell 9 1 rfl rfl)
  have C2 : ∀ w', Cls W8 w' → w'.cell? ⟨W5.heap.size, 0, none⟩ = some (.slice Ax0 n0 cx0) := fun _ h => h.cell (hS.cell 3 0 rfl rfl)
  have C3 : ∀ w', Cls W8 w' → w'.cell? ⟨W5.heap.size, 1, none⟩ = some (.slice Ex0 m0 dx0) := fun _ h => h.cell (hS.cell 3 1 rfl rfl)
  have HL := hid (fun w' (h : Cls W8 w') => hS.step h)
  go_wp2_with fail
  go_region_held3 (fun w' => Cls W8 w') (first | exact Cls.drew _ | exact Cls.next (by assumption) (by assumption))
    (first
      | (go_at_call 7; refine (toNetwork_own _ (h0I.out.grow (HL.out _ (by assumption)).bl).strs (h0I.out.grow (HL.out _ (by assumption)).bl).fibs (Nat.le_refl _) h0n h0m).mono ?_; rintro e w' ⟨Ay0, cy0, Ey0, dy0, rfl, ho1, hb1⟩; have hL1 := (HL.out _ (by assumption)).net hb1 ho1)
      | (go_at_call 11; refine (eqN_led2 hL1 5 0 rfl rfl h0n h0m).mono ?_; rintro e w' ⟨rfl, hS2, hb2⟩))
  clear HL hL1 ho1 hb1 hb2 C0 C1 C2 C3
  replace hS := hS2.drop 1
  clear hS2
  dsimp only [List.drop] at hS
  generalize w' = W9 at *
  go_wp2_with fail
  refine (toIntS_any _ (h3I.out.grow hS.bl) h3n).mono ?_
  rintro e W10 ⟨v, rfl, ho, hb⟩
  obtain ⟨Ay3, cy3, rfl, _, _, _⟩ := ho.form
  replace hS := hS.owns hb ho
  clear hb ho
  go_wp2_with fail
  refine (eqI_led hS 3 0 rfl rfl h3n).mono ?_
  rintro e W11 ⟨rfl, hS1⟩; replace hS := hS1.drop 1; clear hS1; dsimp only [List.drop] at hS
  -- marks
  have q0 := hS.cell 3 0 rfl rfl
  have q1 := hS.cell 3 1 rfl rfl
  go_wp2_with fail
  refine (markN_led hS 4 rfl _ h0n h0m (by omega) (by omega)).mono ?_
  rintro e W12 ⟨rfl, hS1⟩; replace hS := hS1; clear hS1; dsimp only [List.set] at hS
  clear q0 q1
  go_wp2_with fail
  refine (markI_led hS 2 rfl _ h3n (by omega) (by omega)).mono ?_
  rintro e W13 ⟨rfl, hS1⟩; replace hS := hS1; clear hS1; dsimp only [List.set] at hS
  have q0 := hS.cell 0 0 rfl rfl
  have q1 := hS.cell 0 1 rfl rfl
  have q2 := hS.cell 5 0 rfl rfl
  have q3 := hS.cell 5 1 rfl rfl
  go_wp2_with fail
  refine (eqR_led hS 1 6 rfl rfl (frS (avO xs0 fs0 a1 a2 l3) a1) hlen0.out).mono ?_
  rintro e W14 ⟨rfl, hS1⟩; replace hS := hS1; clear hS1
  clear q0 q1 q2 q3
  have q0 := hS.cell 0 0 rfl rfl
  have q1 := hS.cell 0 1 rfl rfl
  go_wp2_with fail
  refine (markR_led hS 1 rfl (frS (avO xs0 fs0 a1 a2 l3) a1) _ hlen0.out (by have := hlen0.out; omega) (by have := hlen0.out; omega)).mono ?_
  rintro e W15 ⟨rfl, hS1⟩; replace hS := hS1; clear hS1; dsimp only [List.set] at hS
  clear q0 q1
  have q0 := hS.cell 0 0 rfl rfl
  have q1 := hS.cell 0 1 rfl rfl
  go_wp2_with fail
  refine (heldR_led hS 1 (frS (avO xs0 fs0 a1 a2 l3) a1) _ rfl hlen0.out (by have := hlen0.out; omega) (by have := hlen0.out; omega)).mono ?_
  rintro e W16 ⟨rfl, hS1⟩; replace hS := hS1; clear hS1
  clear q0 q1
  -- once more
  have q0 := hS.cell 9 0 rfl rfl
  have q1 := hS.cell 9 1 rfl rfl
  go_wp2_with fail
  refine (toNetwork_own _ (h0I.out.grow hS.bl).strs (h0I.out.grow hS.bl).fibs (Nat.le_refl _) h0n h0m).mono ?_
  rintro e W17 ⟨Ah0, ch0, Eh0, dh0, rfl, ho, hb⟩
  replace hS := hS.net hb ho
  clear hb ho
  clear q0 q1
  go_wp2_with fail
  refine (toIntS_any _ (h3I.out.grow hS.bl) h3n).mono ?_
  rintro e W18 ⟨v, rfl, ho, hb⟩
  obtain ⟨Ah3, ch3, rfl, _, _, _⟩ := ho.form
  replace hS := hS.owns hb ho
  clear hb ho
  go_wp2_with fail
  refine (implShortestAvoiding a1 a2 _ (hS.netIs 1 rfl h0n h0m h0x) (hS.seesI 0 rfl) h3n).mono ?_
  rintro e W19 ⟨Ah0, ch0, rfl, ho0, hb⟩
  rw [hL0] at ho0
  replace hS := hS.owns hb ho0
  clear hb ho0
  replace hS := hS.blk_ (W19.heap.size) (by simp) 29 #[.int .i64 (frS (avO xs0 fs0 a1 a2 l3) a1), .slice Ah0 L0.length ch0]
  have q0 := hS.cell 9 0 rfl rfl
  have q1 := hS.cell 9 1 rfl rfl
  go_wp2_with fail
  refine (eqR_led hS 1 10 rfl rfl (frS (avO xs0 fs0 a1 a2 l3) a1) hlen0.out).mono ?_
  rintro e W20 ⟨rfl, hS1⟩; replace hS := hS1; clear hS1
  clear q0 q1
  have q0 := hS.cell 4 0 rfl rfl
  have q1 := hS.cell 4 1 rfl rfl
  go_wp2_with fail
  refine (heldR_led hS 5 (frS (avO xs0 fs0 a1 a2 l3) a1) _ rfl hlen0.out (by have := hlen0.out; omega) (by have := hlen0.out; omega)).mono ?_
  rintro e W21 ⟨rfl, hS1⟩; replace hS := hS1; clear hS1
  clear q0 q1
  go_wp2_with fail
  go_ret
  exact ⟨rfl, hS.bl⟩
end Go.Proofs.YtgoegldffjfmdaaGreat.fnExactShortestAvoiding
