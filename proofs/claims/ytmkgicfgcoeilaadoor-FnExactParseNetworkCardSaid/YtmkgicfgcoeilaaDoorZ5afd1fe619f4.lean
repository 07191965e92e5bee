/- Lemmas and walks that the claim rests on, laid together. Conditions: none. -/
import Derived.Test.YtmkgicfgcoeilaaDoorZ9e85c901efc2
import Derived.Test.YtmkgicfgcoeilaaDoorZ303d8f79b1c4
import Derived.Test.YtmkgicfgcoeilaaDoorZ3399e410e5a6
import Derived.Test.YtmkgicfgcoeilaaDoorZ39757bbdb7f1
/- The reference's ParseNetwork, walked. Conditions: at most 1048576 bytes. By pns.py. -/
namespace Go.Proofs.YtmkgicfgcoeilaaDoor
open Go.RowKit
section
variable {XS TL LS ws : List ByteArray} {F : List Fib} {x l0 : ByteArray}
theorem isF_short (h : ¬ 5 < x.size) : isF x = false := by unfold isF; rw [decide_eq_false h]; rfl
theorem isF_text (h : x.extract 0 5 ≠ wF) : isF x = false := by unfold isF; rw [decide_eq_false h]; simp
theorem isF_yes (h : 5 < x.size) (h2 : x.extract 0 5 = wF) : isF x = true := by unfold isF; rw [decide_eq_true h, decide_eq_true h2]; rfl
/-- What l3Lines gives of lines, the first one's words behind the first being XS: a network that rests on two things of its own. -/
def l3P (XS TL : List ByteArray) (w : World) (e : Ending) (w' : World) : Prop := ∃ (A : Option Addr) (n c : Nat) (A2 : Option Addr) (m d : Nat) (t : Int) (F : List Fib) (b : Bool) (B2 : Option Addr) (k c2 : Nat) (ws : List ByteArray),
  e = .returned (.tuple #[.agg #[.slice A n c, .slice A2 m d], .int .i64 t, .bool b]) ∧ (∀ wr, Owns elFib wr w.heap.size 39 (.slice A2 m d) F → Owns elStr wr w.heap.size 9 (.slice B2 k c2) ws → NetIs wr A n c A2 m d XS F) ∧ (if b then rdLS XS TL = some F ∧ goodB XS F = true else ∀ G, rdLS XS TL = some G → goodB XS G = false) ∧ Led w w' [tOwns elFib w.heap.size 39 (.slice A2 m d) F, tOwns elStr w.heap.size 9 (.slice B2 k c2) ws]
theorem l3P.no {w w' : World} {A A2 B2 : Option Addr} {n c m d k c2 : Nat} {t : Int} (h : ∀ wr, Owns elFib wr w.heap.size 39 (.slice A2 m d) F → Owns elStr wr w.heap.size 9 (.slice B2 k c2) ws → NetIs wr A n c A2 m d XS F) (hr : ∀ G, rdLS XS TL = some G → goodB XS G = false) (hb : Led w w' [tOwns elFib w.heap.size 39 (.slice A2 m d) F, tOwns elStr w.heap.size 9 (.slice B2 k c2) ws]) :
    l3P XS TL w (.returned (.tuple #[.agg #[.slice A n c, .slice A2 m d], .int .i64 t, .bool false])) w' := ⟨A, n, c, A2, m, d, t, F, false, B2, k, c2, ws, rfl, h, hr, hb⟩
theorem l3P.end_ {w w' : World} {A A2 B2 : Option Addr} {n c m d k c2 : Nat} {t : Int} {b : Bool} (h : ∀ wr, Owns elFib wr w.heap.size 39 (.slice A2 m d) F → Owns elStr wr w.heap.size 9 (.slice B2 k c2) ws → NetIs wr A n c A2 m d XS F) (hr : rdLS XS TL = some F) (hg : goodB XS F = b) (hb : Led w w' [tOwns elFib w.heap.size 39 (.slice A2 m d) F, tOwns elStr w.heap.size 9 (.slice B2 k c2) ws]) :
    l3P XS TL w (.returned (.tuple #[.agg #[.slice A n c, .slice A2 m d], .int .i64 t, .bool b])) w' := by
  refine ⟨A, n, c, A2, m, d, t, F, b, B2, k, c2, ws, rfl, h, ?_, hb⟩
  cases b
  · intro G hG
    rw [hr] at hG
    injection hG with hG
    subst hG
    exact hg
  · exact ⟨hr, hg⟩
/-- Of four things the first and the third. -/
theorem Led.first3 {w0 w : World} {a b c d : Thing} (h : Led w0 w [a, b, c, d]) : Led w0 w [a, c] := by
  refine ⟨h.bl, fun i t hi => ?_, fun i j x y hij hx hy => ?_⟩
  · match i, hi with
    | 0, hi => exact h.all 0 _ hi
    | 1, hi => exact h.all 2 _ hi
    | i + 2, hi => simp at hi
  · match i, j, hx, hy with
    | 0, 0, _, _ => exact absurd rfl hij
    | 1, 1, _, _ => exact absurd rfl hij
    | 0, 1, hx, hy => exact h.apart 0 2 x y (by decide) hx hy
    | 1, 0, hx, hy => exact h.apart 2 0 x y (by decide) hx hy
    | i + 2, _, hx, _ => simp at hx
    | _, j + 2, _, hy => simp at hy
end
set_option maxHeartbeats 2000000 in
set_option maxRecDepth 100000 in
theorem l3Lines_any (w : World) {b1 cw : Nat} {LS : List ByteArray} {l0 : ByteArray} (hW : Sees elStr w w.heap.size (some ⟨b1, 0, none⟩) LS.length LS) (h0 : LS[0]? = some l0) (hl1 : LS.length ≤ 4001) (hz : ∀ x ∈ LS, x.size ≤ 4000) {XS TL : List ByteArray} (hXS0 : (splA l0 32).drop 1 = XS) (hTL : LS.drop 1 = TL) :
    Calls Tryd.prog 9 #[.slice (some ⟨b1, 0, none⟩) LS.length cw] w (l3P XS TL w) := by
  have HXS0 := hid hXS0
  have HTL0 := hid hTL
  clear hXS0 hTL
  have HS := hid ((Led.nil w).blk_ w.heap.size rfl 25 #[.slice none 0 0, .slice none 0 0])
  obtain ⟨i0, hi, hy0, hy1, hy2⟩ := info_parts fib_info
  have HW := hid hW
  have HZ := hid hz
  have hl0 : 0 < LS.length := (List.getElem?_eq_some_iff.1 h0).1
  have f0 := (hW.grow HS.out.bl).cell h0 (j := 0) rfl
  simp only [elStr, Nat.mul_one, Nat.add_zero] at f0
  have hz0 : l0.size ≤ 4000 := hz l0 (List.mem_of_getElem? h0)
  clear hW hz
  go_enter Tryd.func9, Tryd.ntmps9
  go_wp2_with fail
  refine (l1Split_any l0 32 _ (by omega)).mono ?_
  rintro e w2 ⟨v, rfl, ho, hb⟩
  obtain ⟨ws, hws⟩ : ∃ ws, splA l0 32 = ws := ⟨_, rfl⟩
  rw [hws] at ho
  have hw0 : 0 < ws.length ∧ ws.length ≤ 4001 ∧ ∀ x ∈ ws, x.size ≤ 4000 := by
    rw [← hws]
    have := splA_len (s := l0) (b := 32)
    exact ⟨this.1, by omega, fun x hx => Nat.le_trans (part_sizeU (u := 32) hx) hz0⟩
  obtain ⟨hw0, hw1, hwz⟩ := hw0
  obtain ⟨B2, c2, rfl, hc2, _, _⟩ := ho.form
  obtain ⟨b2, rfl⟩ : ∃ b2, B2 = some ⟨b2, 0, none⟩ := by
    obtain ⟨g1, c3, hv⟩ := own_split ho rfl hw0
    injection hv with h1 _ _
    exact ⟨g1, h1⟩
  have HS2 := hid (HS.out.owns_ (b0 := w.heap.size) hb ho (Nat.le_refl _) (by simp))
  have hXS : ws.drop 1 = XS := by rw [← hws]; exact HXS0.out
  have HXL : Hid (XS.length = ws.length - 1) := by unfold Hid; rw [← hXS, List.length_drop]
  have HXZ : Hid (∀ x ∈ XS, x.size ≤ maxLen) := by unfold Hid; rw [← hXS]; intro x hx; have := hwz x (List.mem_of_mem_drop hx); unfold maxLen; omega
  have hTL : LS.drop 1 = TL := HTL0.out
  have HTL : Hid (TL.length = LS.length - 1) := by unfold Hid; rw [← hTL, List.length_drop]
  have HTG : Hid (∀ k, TL[k]? = LS[1 + k]?) := by unfold Hid; intro k; rw [← hTL, List.getElem?_drop]
  have HXS := hid hXS
  clear HS HXS0 HTL0 ho hb hws f0 hXS hTL hwz h0 hz0
  by_cases e2 : c2 = 1
  · skip
    have HNT := hid (fun (wr : World) (hw : Sees elStr wr wr.heap.size (some ⟨b2, 0, none⟩) ws.length ws) => (show Sees elStr wr wr.heap.size (some ⟨b2, 0, none⟩) (ws.length - 1) XS by rw [← HXS.out]; exact tail_sees hw rfl hw0 hc2 (by rw [if_pos e2])))
    have HNO := hid (fun (F : List Fib) (AF : Option Addr) (cF : Nat) (hF : F.length ≤ 4001) (wr : World) (h0 : Owns elFib wr w.heap.size 39 (.slice AF F.length cF) F) (h1 : Owns elStr wr w.heap.size 9 (.slice (some ⟨b2, 0, none⟩) ws.length c2) ws) => (show NetIs wr (some ⟨b2, 0, none⟩) (ws.length - 1) 0 AF F.length cF XS F from by
      obtain ⟨_, _, hv, hcF, _, _⟩ := h0.form
      injection hv with _ _ h3
      exact ⟨⟨by omega, by omega⟩, ⟨by omega, by omega⟩, HNT.out _ h1.sees, h0.sees, HXZ.out⟩))
    have HNE := hid (fun (F : List Fib) (AF : Option Addr) (cF : Nat) (hF : F.length ≤ 4001) (v : Array Value) (wr : World) (h : Led w wr [tOwns elFib w.heap.size 39 (.slice AF F.length cF) F, tBlk w2.heap.size 25 #[.slice (some ⟨b2, 0, none⟩) (ws.length - 1) 0, .slice AF F.length cF], tOwns elStr w.heap.size 9 (.slice (some ⟨b2, 0, none⟩) ws.length c2) ws, tBlk w.heap.size 25 v]) => HNO.out F AF cF hF wr (h.get 0 rfl) (h.get 2 rfl))
    go_wp2_with fail
    have HS3 := hid ((HS2.out.blk_ w2.heap.size rfl 25 #[.slice (some ⟨b2, 0, none⟩) (ws.length - 1) 0, .slice none 0 0]).nilS elFib 39 w.heap.size)
    clear HS2
    go_loopw [7] (fun i wr => ∃ (k q : Nat) (vF : Value) (F : List Fib), Hid (q = 1 + k) ∧ k ≤ LS.length - 1 ∧ i = .int .i64 q ∧ Hid (runS XS TL k F ∧ F.length = k) ∧ Hid (Led w wr [tOwns elFib w.heap.size 39 vF F, tBlk w2.heap.size 25 #[.slice (some ⟨b2, 0, none⟩) (ws.length - 1) 0, vF], tOwns elStr w.heap.size 9 (.slice (some ⟨b2, 0, none⟩) ws.length c2) ws, tBlk w.heap.size 25 #[.slice none 0 0, .slice none 0 0]])) (fun i _ => LS.length - (intOf i).toNat)
    case atStart => exact ⟨0, 1, _, [], hid rfl, Nat.zero_le _, rfl, hid ⟨runS_zero, rfl⟩, HS3⟩
    case round =>
      clear HS3
      obtain ⟨k, q, vF, F, HQ, hk, rfl, HR, HS⟩ := hrel
      obtain ⟨AF, cF, rfl, _⟩ := HS.out.form 0 rfl
      have HFL := hid HR.out.2
      have hF1 : F.length ≤ 4001 := by have := HFL.out; omega
      have HN := hid (HNE.out F AF cF hF1 _ wr HS.out)
      by_cases hlt : q < LS.length
      · obtain ⟨x, hx⟩ := get_of (k := q) (l := LS) rfl hlt
        have f1 := (HW.out.grow HS.out.bl).cell hx (j := 0) rfl
        simp only [elStr, Nat.mul_one, Nat.add_zero, Nat.zero_add] at f1
        have hxs := HZ.out x (List.mem_of_getElem? hx)
        have HX : Hid (TL[k]? = some x) := by unfold Hid; rw [HTG.out, ← HQ.out]; exact hx
        have iq : (q : Int) < (LS.length : Int) := by omega
        have HF1 := hid (fun (wr : World) (hb : Below w.heap.size w wr) => (show wr.cell? ⟨b1, q, none⟩ = some (.string x) from by
          have h := (HW.out.grow hb).cell hx (j := 0) rfl
          simpa [elStr] using h))
        have HPT : Hid (∀ y ∈ splA x 32, y.size ≤ 4000) := fun y hy => Nat.le_trans (part_sizeU (u := 32) hy) hxs
        clear hx
        by_cases h5 : 5 < x.size
        · have i5 : (x.size : Int) > 5 := by omega
          have j5 : 5 ≤ x.size := by omega
          by_cases ht5 : x.extract 0 5 = wF
          · have he : ((x.extract 0 5).toList == [102, 105, 98, 101, 114]) = true := by rw [ht5, wF_list]; exact beq_self_eq_true _
            have HIF := hid (isF_yes h5 ht5)
            clear ht5
            go_wp2_with fail
            refine wp_region_held_drew (S := fun w' => (w'.cell? ⟨w2.heap.size, 0, none⟩ = some (.slice (some ⟨b2, 0, none⟩) (ws.length - 1) 0) ∧ w'.cell? ⟨w2.heap.size, 1, none⟩ = some (.slice AF F.length cF)) ∧ w'.cell? ⟨b1, q, none⟩ = some (.string x)) (by kernel_rfl) (⟨⟨HS.out.cell 1 0 rfl rfl, HS.out.cell 1 1 rfl rfl⟩, HF1.out wr HS.out.bl⟩) (fun hHeld => ?_)
            refine wpAnyH_take (i := 0) (oi := _) (v := ?_) rfl (by kernel_rfl) (by kernel_rfl) (by kernel_rfl) (fun _ _ _ h => h) (Or.inl ⟨by rfl, ?_⟩) (by assumption) ?_
            rotate_left
            · intro w hSw; go_simp; with_reducible rfl
            simp only [Act.put, List.getElem_toArray, List.getElem_cons_zero, List.setIfInBounds_toArray, List.set_cons_zero, List.set_cons_succ]
            refine wpAnyH_take (i := 1) (oi := _) (v := ?_) rfl (by kernel_rfl) (by kernel_rfl) (by kernel_rfl) (fun _ _ _ h => h) (Or.inl ⟨by rfl, ?_⟩) (by assumption) ?_
            rotate_left
            · intro w hSw; go_simp; with_reducible rfl
            simp only [Act.put, List.getElem_toArray, List.getElem_cons_zero, List.getElem_cons_succ, List.setIfInBounds_toArray, List.set_cons_zero, List.set_cons_succ]
            refine wpAnyH_take (i := 2) (oi := _) (v := ?_) rfl (by kernel_rfl) (by kernel_rfl) (by kernel_rfl) (fun _ _ _ h => h) (Or.inl ⟨by rfl, ?_⟩) (by assumption) ?_
            rotate_left
            · intro w hSw; go_simp; with_reducible rfl
            simp only [Act.put, List.getElem_toArray, List.getElem_cons_zero, List.getElem_cons_succ, List.setIfInBounds_toArray, List.set_cons_zero, List.set_cons_succ]
            refine wpAnyH_take (i := 3) (oi := _) (v := ?_) rfl (by kernel_rfl) (by kernel_rfl) (by kernel_rfl) (fun _ _ _ h => h) (Or.inl ⟨by rfl, ?_⟩) (by assumption) ?_
            rotate_left
            · intro w hSw; go_simp; with_reducible rfl
            simp only [Act.put, List.getElem_toArray, List.getElem_cons_zero, List.getElem_cons_succ, List.setIfInBounds_toArray, List.set_cons_zero, List.set_cons_succ]
            refine wpAnyH_take (i := 4) (oi := _) (v := ?_) rfl (by kernel_rfl) (by kernel_rfl) (by kernel_rfl) (fun _ _ _ h => h) (Or.inl ⟨by rfl, ?_⟩) (by assumption) ?_
            rotate_left
            · intro w hSw; go_simp; with_reducible rfl
            simp only [Act.put, List.getElem_toArray, List.getElem_cons_zero, List.getElem_cons_succ, List.setIfInBounds_toArray, List.set_cons_zero, List.set_cons_succ]
            refine wpAnyH_ready (rs := [5, 10]) (by kernel_rfl) (by simp) ?_
            refine AllReadyH.cons rfl (fun K hK => ?_) ?_
            · skip
              have hd := HS.out.step (Cls.drew _)
              go_simp
              refine (l1Split_any x 32 _ (by omega)).mono ?_
              rintro e w4 ⟨v4, rfl, ho4, hb4⟩
              have h4 := hd.owns_ (b0 := w.heap.size) hb4 ho4 (Nat.le_refl _) hd.bl.size
              obtain ⟨A4, c4, hv4, _⟩ := h4.form 0 rfl
              subst hv4
              go_wp2_with fail
              refine hK.out _ _ (⟨⟨h4.cell 2 0 rfl rfl, h4.cell 2 1 rfl rfl⟩, HF1.out _ h4.bl⟩) (fun hHeld => ?_)
              clear hK K
              try simp only [Act.put, List.getElem_toArray, List.getElem_cons_zero, List.getElem_cons_succ, List.setIfInBounds_toArray, List.set_cons_zero, List.set_cons_succ]
              refine wpAnyH_ready (rs := [6, 10]) (by kernel_rfl) (by simp) ?_
              refine AllReadyH.cons rfl (fun K hK => ?_) ?_
              · skip
                go_simp
                refine (l3Fiber_any _ ((HN.out.grow (Cls.drew _)).grow hb4) (h4.sees (E := elStr) 0 rfl rfl) HPT.out).mono ?_
                rintro e w5 ⟨f, b, rfl, hf, hb5⟩
                have h5 := h4.step hb5
                go_wp2_with fail
                refine hK.out _ _ (⟨⟨h5.cell 2 0 rfl rfl, h5.cell 2 1 rfl rfl⟩, HF1.out _ h5.bl⟩) (fun hHeld => ?_)
                clear hK K
                try simp only [Act.put, List.getElem_toArray, List.getElem_cons_zero, List.getElem_cons_succ, List.setIfInBounds_toArray, List.set_cons_zero, List.set_cons_succ]
                refine wpAnyH_take (i := 7) (oi := _) (v := ?_) rfl (by kernel_rfl) (by kernel_rfl) (by kernel_rfl) (fun _ _ _ h => h) (Or.inl ⟨by rfl, ?_⟩) (by assumption) ?_
                rotate_left
                · intro w hSw; go_simp; with_reducible rfl
                simp only [Act.put, List.getElem_toArray, List.getElem_cons_zero, List.getElem_cons_succ, List.setIfInBounds_toArray, List.set_cons_zero, List.set_cons_succ]
                refine wpAnyH_take (i := 8) (oi := _) (v := ?_) rfl (by kernel_rfl) (by kernel_rfl) (by kernel_rfl) (fun _ _ _ h => h) (Or.inl ⟨by rfl, ?_⟩) (by assumption) ?_
                rotate_left
                · intro w hSw; go_simp; with_reducible rfl
                simp only [Act.put, List.getElem_toArray, List.getElem_cons_zero, List.getElem_cons_succ, List.setIfInBounds_toArray, List.set_cons_zero, List.set_cons_succ]
                refine wpAnyH_take (i := 9) (oi := _) (v := ?_) rfl (by kernel_rfl) (by kernel_rfl) (by kernel_rfl) (fun _ _ _ h => h) (Or.inl ⟨by rfl, ?_⟩) (by assumption) ?_
                rotate_left
                · intro w hSw; go_simp; with_reducible rfl
                simp only [Act.put, List.getElem_toArray, List.getElem_cons_zero, List.getElem_cons_succ, List.setIfInBounds_toArray, List.set_cons_zero, List.set_cons_succ]
                have h6 := h5.blk_ w5.heap.size rfl 39 #[.int .i64 0, .int .i64 0, .int .i64 0, .int .i64 0]
                refine wpAnyH_ready (rs := [10]) (by kernel_rfl) (by simp) ?_
                refine AllReadyH.cons rfl (fun K hK => ?_) AllReadyH.nil
                go_simp
                go_wp2_with fail
                refine hK.out _ _ (⟨⟨h6.cell 3 0 rfl rfl, h6.cell 3 1 rfl rfl⟩, HF1.out _ h6.bl⟩) (fun hHeld => ?_)
                clear hK K
                try simp only [Act.put, List.getElem_toArray, List.getElem_cons_zero, List.getElem_cons_succ, List.setIfInBounds_toArray, List.set_cons_zero, List.set_cons_succ]
                have y0 := h6.cell 0 0 rfl rfl
                have z0 := h6.frozen 0 0 rfl
                have y1 := h6.cell 0 1 rfl rfl
                have z1 := h6.frozen 0 1 rfl
                have y2 := h6.cell 0 2 rfl rfl
                have z2 := h6.frozen 0 2 rfl
                have y3 := h6.cell 0 3 rfl rfl
                have z3 := h6.frozen 0 3 rfl
                have h7 := h5.blk_ w5.heap.size rfl 39 #[.int .i64 f.a, .int .i64 f.b, .int .i64 f.len, .int .i64 f.risk]
                refine wpAnyH_ready (rs := [11]) (by kernel_rfl) (by simp) ?_
                refine AllReadyH.cons rfl (fun K hK => ?_) AllReadyH.nil
                go_simp
                go_wp2_with fail
                refine hK.out _ _ (⟨⟨h7.cell 3 0 rfl rfl, h7.cell 3 1 rfl rfl⟩, HF1.out _ h7.bl⟩) (fun hHeld => ?_)
                clear hK K
                try simp only [Act.put, List.getElem_toArray, List.getElem_cons_zero, List.getElem_cons_succ, List.setIfInBounds_toArray, List.set_cons_zero, List.set_cons_succ]
                refine wpAnyH_take (i := 12) (oi := _) (v := ?_) rfl (by kernel_rfl) (by kernel_rfl) (by kernel_rfl) (fun _ _ _ h => h) (Or.inl ⟨by rfl, ?_⟩) (by assumption) ?_
                rotate_left
                · intro w hSw; go_simp; with_reducible rfl
                simp only [Act.put, List.getElem_toArray, List.getElem_cons_zero, List.getElem_cons_succ, List.setIfInBounds_toArray, List.set_cons_zero, List.set_cons_succ]
                refine wpAnyH_done (by kernel_rfl) ?_ _
                have H7 := hid h7
                clear h7 h6 hHeld y0 y1 y2 y3 z0 z1 z2 z3
                cases b
                · have hno := runS_none HR.out.1 HX.out HIF.out hf
                  have q0 := H7.out.cell 3 0 rfl rfl
                  have q1 := H7.out.cell 3 1 rfl rfl
                  have y0 := H7.out.cell 5 0 rfl rfl
                  have y1 := H7.out.cell 5 1 rfl rfl
                  have z0 := H7.out.frozen 5 0 rfl
                  have z1 := H7.out.frozen 5 1 rfl
                  have h8 := ((H7.out.set 5 rfl 0 (.slice (some ⟨b2, 0, none⟩) (ws.length - 1) 0)).set 5 rfl 1 (.slice AF F.length cF))
                  have HE := hid (h8.drop 2)
                  have y8 := h8.cell 5 0 rfl rfl
                  have y9 := h8.cell 5 1 rfl rfl
                  clear h8 H7
                  go_wp2_with fail
                  exact bodyPost_ret (v := .tuple #[.agg #[.slice (some ⟨b2, 0, none⟩) (ws.length - 1) 0, .slice AF F.length cF], .int .i64 q, .bool false]) (by simp [results, Tryd.results9, go_sem, y8, y9]) rfl (l3P.no (HNO.out F AF cF hF1) (fun G hG => by rw [hno] at hG; cases hG) HE.out.first3)
                · have HR2 := hid (runS_succ HR.out.1 HX.out HIF.out hf)
                  have p3 := H7.out.cell 3 1 rfl rfl
                  have u0 := H7.out.cell 0 0 rfl rfl
                  have u1 := H7.out.cell 0 1 rfl rfl
                  have u2 := H7.out.cell 0 2 rfl rfl
                  have u3 := H7.out.cell 0 3 rfl rfl
                  have HS5 := hid (H7.out.blk_ (w5.heap.size + 1) (by simp) 39 #[.int .i64 f.a, .int .i64 f.b, .int .i64 f.len, .int .i64 f.risk])
                  clear H7 hf
                  go_wp2_with (first
                    | (at_builtin; refine wpList_append_led rfl _ _ 23 rfl HS5.out 3 rfl Tryd.underlying23 hi hy0 hy1 (by rw [hy2]; decide) rfl rfl rfl (show Sees elFib _ _ _ 1 [f] from sees_new elFib _ f _ _ (by simp)) (by omega) HS5.out.bl.size ?_)
                    | go_in)
                  intro A2 c3 w7 hS5
                  have p5 := hS5.cell 4 1 rfl rfl
                  have z5 := hS5.frozen 4 1 rfl
                  have HS6 := hid ((hS5.set 4 rfl 1 (.slice A2 (F.length + 1) c3)).drop 3)
                  clear HS5 hS5 p3
                  have iw : IntKind.i64.wrap ((q : Int) + 1) = ((q + 1 : Nat) : Int) := by rw [IntWalk.i64_in _ (by omega)]; omega
                  go_wp2
                  go_roundw
                  case rel => exact ⟨k + 1, q + 1, .slice A2 (F.length + 1) c3, F ++ [f], hid (by have := HQ.out; omega), by have := HQ.out; omega, by go_num, hid ⟨HR2.out, by rw [List.length_append, HFL.out]; rfl⟩, by first | exact HS6 | (rw [e2]; exact HS6)⟩
                  case measure => simp [intOf]; omega
              · skip
                have h4a := h4.blk_ w4.heap.size rfl 39 #[.int .i64 0, .int .i64 0, .int .i64 0, .int .i64 0]
                refine AllReadyH.cons rfl (fun K hK => ?_) AllReadyH.nil
                go_simp
                go_wp2_with fail
                refine hK.out _ _ (⟨⟨h4a.cell 3 0 rfl rfl, h4a.cell 3 1 rfl rfl⟩, HF1.out _ h4a.bl⟩) (fun hHeld => ?_)
                clear hK K
                try simp only [Act.put, List.getElem_toArray, List.getElem_cons_zero, List.getElem_cons_succ, List.setIfInBounds_toArray, List.set_cons_zero, List.set_cons_succ]
                refine wpAnyH_ready (rs := [6]) (by kernel_rfl) (by simp) ?_
                refine AllReadyH.cons rfl (fun K hK => ?_) AllReadyH.nil
                go_simp
                refine (l3Fiber_any _ (HNE.out F AF cF hF1 _ _ (h4a.drop 2)) (h4a.sees (E := elStr) 1 rfl rfl) HPT.out).mono ?_
                rintro e w5 ⟨f, b, rfl, hf, hb5⟩
                have h5 := h4a.step hb5
                go_wp2_with fail
                refine hK.out _ _ (⟨⟨h5.cell 3 0 rfl rfl, h5.cell 3 1 rfl rfl⟩, HF1.out _ h5.bl⟩) (fun hHeld => ?_)
                clear hK K
                try simp only [Act.put, List.getElem_toArray, List.getElem_cons_zero, List.getElem_cons_succ, List.setIfInBounds_toArray, List.set_cons_zero, List.set_cons_succ]
                refine wpAnyH_take (i := 7) (oi := _) (v := ?_) rfl (by kernel_rfl) (by kernel_rfl) (by kernel_rfl) (fun _ _ _ h => h) (Or.inl ⟨by rfl, ?_⟩) (by assumption) ?_
                rotate_left
                · intro w hSw; go_simp; with_reducible rfl
                simp only [Act.put, List.getElem_toArray, List.getElem_cons_zero, List.getElem_cons_succ, List.setIfInBounds_toArray, List.set_cons_zero, List.set_cons_succ]
                refine wpAnyH_take (i := 8) (oi := _) (v := ?_) rfl (by kernel_rfl) (by kernel_rfl) (by kernel_rfl) (fun _ _ _ h => h) (Or.inl ⟨by rfl, ?_⟩) (by assumption) ?_
                rotate_left
                · intro w hSw; go_simp; with_reducible rfl
                simp only [Act.put, List.getElem_toArray, List.getElem_cons_zero, List.getElem_cons_succ, List.setIfInBounds_toArray, List.set_cons_zero, List.set_cons_succ]
                refine wpAnyH_take (i := 9) (oi := _) (v := ?_) rfl (by kernel_rfl) (by kernel_rfl) (by kernel_rfl) (fun _ _ _ h => h) (Or.inl ⟨by rfl, ?_⟩) (by assumption) ?_
                rotate_left
                · intro w hSw; go_simp; with_reducible rfl
                simp only [Act.put, List.getElem_toArray, List.getElem_cons_zero, List.getElem_cons_succ, List.setIfInBounds_toArray, List.set_cons_zero, List.set_cons_succ]
                have h6 := h5
                have y0 := h6.cell 0 0 rfl rfl
                have z0 := h6.frozen 0 0 rfl
                have y1 := h6.cell 0 1 rfl rfl
                have z1 := h6.frozen 0 1 rfl
                have y2 := h6.cell 0 2 rfl rfl
                have z2 := h6.frozen 0 2 rfl
                have y3 := h6.cell 0 3 rfl rfl
                have z3 := h6.frozen 0 3 rfl
                have h7 := (((h6.set 0 rfl 0 (.int .i64 f.a)).set 0 rfl 1 (.int .i64 f.b)).set 0 rfl 2 (.int .i64 f.len)).set 0 rfl 3 (.int .i64 f.risk)
                refine wpAnyH_ready (rs := [11]) (by kernel_rfl) (by simp) ?_
                refine AllReadyH.cons rfl (fun K hK => ?_) AllReadyH.nil
                go_simp
                go_wp2_with fail
                refine hK.out _ _ (⟨⟨h7.cell 3 0 rfl rfl, h7.cell 3 1 rfl rfl⟩, HF1.out _ h7.bl⟩) (fun hHeld => ?_)
                clear hK K
                try simp only [Act.put, List.getElem_toArray, List.getElem_cons_zero, List.getElem_cons_succ, List.setIfInBounds_toArray, List.set_cons_zero, List.set_cons_succ]
                refine wpAnyH_take (i := 12) (oi := _) (v := ?_) rfl (by kernel_rfl) (by kernel_rfl) (by kernel_rfl) (fun _ _ _ h => h) (Or.inl ⟨by rfl, ?_⟩) (by assumption) ?_
                rotate_left
                · intro w hSw; go_simp; with_reducible rfl
                simp only [Act.put, List.getElem_toArray, List.getElem_cons_zero, List.getElem_cons_succ, List.setIfInBounds_toArray, List.set_cons_zero, List.set_cons_succ]
                refine wpAnyH_done (by kernel_rfl) ?_ _
                have H7 := hid h7
                clear h7 h6 hHeld y0 y1 y2 y3 z0 z1 z2 z3
                cases b
                · have hno := runS_none HR.out.1 HX.out HIF.out hf
                  have q0 := H7.out.cell 3 0 rfl rfl
                  have q1 := H7.out.cell 3 1 rfl rfl
                  have y0 := H7.out.cell 5 0 rfl rfl
                  have y1 := H7.out.cell 5 1 rfl rfl
                  have z0 := H7.out.frozen 5 0 rfl
                  have z1 := H7.out.frozen 5 1 rfl
                  have h8 := ((H7.out.set 5 rfl 0 (.slice (some ⟨b2, 0, none⟩) (ws.length - 1) 0)).set 5 rfl 1 (.slice AF F.length cF))
                  have HE := hid (h8.drop 2)
                  have y8 := h8.cell 5 0 rfl rfl
                  have y9 := h8.cell 5 1 rfl rfl
                  clear h8 H7
                  go_wp2_with fail
                  exact bodyPost_ret (v := .tuple #[.agg #[.slice (some ⟨b2, 0, none⟩) (ws.length - 1) 0, .slice AF F.length cF], .int .i64 q, .bool false]) (by simp [results, Tryd.results9, go_sem, y8, y9]) rfl (l3P.no (HNO.out F AF cF hF1) (fun G hG => by rw [hno] at hG; cases hG) HE.out.first3)
                · have HR2 := hid (runS_succ HR.out.1 HX.out HIF.out hf)
                  have p3 := H7.out.cell 3 1 rfl rfl
                  have u0 := H7.out.cell 0 0 rfl rfl
                  have u1 := H7.out.cell 0 1 rfl rfl
                  have u2 := H7.out.cell 0 2 rfl rfl
                  have u3 := H7.out.cell 0 3 rfl rfl
                  have HS5 := hid (H7.out.blk_ (w5.heap.size) (by simp) 39 #[.int .i64 f.a, .int .i64 f.b, .int .i64 f.len, .int .i64 f.risk])
                  clear H7 hf
                  go_wp2_with (first
                    | (at_builtin; refine wpList_append_led rfl _ _ 23 rfl HS5.out 3 rfl Tryd.underlying23 hi hy0 hy1 (by rw [hy2]; decide) rfl rfl rfl (show Sees elFib _ _ _ 1 [f] from sees_new elFib _ f _ _ (by simp)) (by omega) HS5.out.bl.size ?_)
                    | go_in)
                  intro A2 c3 w7 hS5
                  have p5 := hS5.cell 4 1 rfl rfl
                  have z5 := hS5.frozen 4 1 rfl
                  have HS6 := hid ((hS5.set 4 rfl 1 (.slice A2 (F.length + 1) c3)).drop 3)
                  clear HS5 hS5 p3
                  have iw : IntKind.i64.wrap ((q : Int) + 1) = ((q + 1 : Nat) : Int) := by rw [IntWalk.i64_in _ (by omega)]; omega
                  go_wp2
                  go_roundw
                  case rel => exact ⟨k + 1, q + 1, .slice A2 (F.length + 1) c3, F ++ [f], hid (by have := HQ.out; omega), by have := HQ.out; omega, by go_num, hid ⟨HR2.out, by rw [List.length_append, HFL.out]; rfl⟩, by first | exact HS6 | (rw [e2]; exact HS6)⟩
                  case measure => simp [intOf]; omega
            · skip
              have hd := (HS.out.blk_ wr.heap.size rfl 39 #[.int .i64 0, .int .i64 0, .int .i64 0, .int .i64 0]).step (Cls.drew _)
              refine AllReadyH.cons rfl (fun K hK => ?_) AllReadyH.nil
              go_simp
              go_wp2_with fail
              refine hK.out _ _ (⟨⟨hd.cell 2 0 rfl rfl, hd.cell 2 1 rfl rfl⟩, HF1.out _ hd.bl⟩) (fun hHeld => ?_)
              clear hK K
              try simp only [Act.put, List.getElem_toArray, List.getElem_cons_zero, List.getElem_cons_succ, List.setIfInBounds_toArray, List.set_cons_zero, List.set_cons_succ]
              refine wpAnyH_ready (rs := [5]) (by kernel_rfl) (by simp) ?_
              refine AllReadyH.cons rfl (fun K hK => ?_) AllReadyH.nil
              go_simp
              refine (l1Split_any x 32 _ (by omega)).mono ?_
              rintro e w4 ⟨v4, rfl, ho4, hb4⟩
              have h4 := hd.owns_ (b0 := w.heap.size) hb4 ho4 (Nat.le_refl _) hd.bl.size
              obtain ⟨A4, c4, hv4, _⟩ := h4.form 0 rfl
              subst hv4
              go_wp2_with fail
              refine hK.out _ _ (⟨⟨h4.cell 3 0 rfl rfl, h4.cell 3 1 rfl rfl⟩, HF1.out _ h4.bl⟩) (fun hHeld => ?_)
              clear hK K
              try simp only [Act.put, List.getElem_toArray, List.getElem_cons_zero, List.getElem_cons_succ, List.setIfInBounds_toArray, List.set_cons_zero, List.set_cons_succ]
              refine wpAnyH_ready (rs := [6]) (by kernel_rfl) (by simp) ?_
              refine AllReadyH.cons rfl (fun K hK => ?_) AllReadyH.nil
              go_simp
              refine (l3Fiber_any _ (HNE.out F AF cF hF1 _ _ (h4.drop 2)) (h4.sees (E := elStr) 0 rfl rfl) HPT.out).mono ?_
              rintro e w5 ⟨f, b, rfl, hf, hb5⟩
              have h5 := h4.step hb5
              go_wp2_with fail
              refine hK.out _ _ (⟨⟨h5.cell 3 0 rfl rfl, h5.cell 3 1 rfl rfl⟩, HF1.out _ h5.bl⟩) (fun hHeld => ?_)
              clear hK K
              try simp only [Act.put, List.getElem_toArray, List.getElem_cons_zero, List.getElem_cons_succ, List.setIfInBounds_toArray, List.set_cons_zero, List.set_cons_succ]
              refine wpAnyH_take (i := 7) (oi := _) (v := ?_) rfl (by kernel_rfl) (by kernel_rfl) (by kernel_rfl) (fun _ _ _ h => h) (Or.inl ⟨by rfl, ?_⟩) (by assumption) ?_
              rotate_left
              · intro w hSw; go_simp; with_reducible rfl
              simp only [Act.put, List.getElem_toArray, List.getElem_cons_zero, List.getElem_cons_succ, List.setIfInBounds_toArray, List.set_cons_zero, List.set_cons_succ]
              refine wpAnyH_take (i := 8) (oi := _) (v := ?_) rfl (by kernel_rfl) (by kernel_rfl) (by kernel_rfl) (fun _ _ _ h => h) (Or.inl ⟨by rfl, ?_⟩) (by assumption) ?_
              rotate_left
              · intro w hSw; go_simp; with_reducible rfl
              simp only [Act.put, List.getElem_toArray, List.getElem_cons_zero, List.getElem_cons_succ, List.setIfInBounds_toArray, List.set_cons_zero, List.set_cons_succ]
              refine wpAnyH_take (i := 9) (oi := _) (v := ?_) rfl (by kernel_rfl) (by kernel_rfl) (by kernel_rfl) (fun _ _ _ h => h) (Or.inl ⟨by rfl, ?_⟩) (by assumption) ?_
              rotate_left
              · intro w hSw; go_simp; with_reducible rfl
              simp only [Act.put, List.getElem_toArray, List.getElem_cons_zero, List.getElem_cons_succ, List.setIfInBounds_toArray, List.set_cons_zero, List.set_cons_succ]
              have h6 := h5
              have y0 := h6.cell 1 0 rfl rfl
              have z0 := h6.frozen 1 0 rfl
              have y1 := h6.cell 1 1 rfl rfl
              have z1 := h6.frozen 1 1 rfl
              have y2 := h6.cell 1 2 rfl rfl
              have z2 := h6.frozen 1 2 rfl
              have y3 := h6.cell 1 3 rfl rfl
              have z3 := h6.frozen 1 3 rfl
              have h7 := (((h6.set 1 rfl 0 (.int .i64 f.a)).set 1 rfl 1 (.int .i64 f.b)).set 1 rfl 2 (.int .i64 f.len)).set 1 rfl 3 (.int .i64 f.risk)
              refine wpAnyH_ready (rs := [11]) (by kernel_rfl) (by simp) ?_
              refine AllReadyH.cons rfl (fun K hK => ?_) AllReadyH.nil
              go_simp
              go_wp2_with fail
              refine hK.out _ _ (⟨⟨h7.cell 3 0 rfl rfl, h7.cell 3 1 rfl rfl⟩, HF1.out _ h7.bl⟩) (fun hHeld => ?_)
              clear hK K
              try simp only [Act.put, List.getElem_toArray, List.getElem_cons_zero, List.getElem_cons_succ, List.setIfInBounds_toArray, List.set_cons_zero, List.set_cons_succ]
              refine wpAnyH_take (i := 12) (oi := _) (v := ?_) rfl (by kernel_rfl) (by kernel_rfl) (by kernel_rfl) (fun _ _ _ h => h) (Or.inl ⟨by rfl, ?_⟩) (by assumption) ?_
              rotate_left
              · intro w hSw; go_simp; with_reducible rfl
              simp only [Act.put, List.getElem_toArray, List.getElem_cons_zero, List.getElem_cons_succ, List.setIfInBounds_toArray, List.set_cons_zero, List.set_cons_succ]
              refine wpAnyH_done (by kernel_rfl) ?_ _
              have H7 := hid h7
              clear h7 h6 hHeld y0 y1 y2 y3 z0 z1 z2 z3
              cases b
              · have hno := runS_none HR.out.1 HX.out HIF.out hf
                have q0 := H7.out.cell 3 0 rfl rfl
                have q1 := H7.out.cell 3 1 rfl rfl
                have y0 := H7.out.cell 5 0 rfl rfl
                have y1 := H7.out.cell 5 1 rfl rfl
                have z0 := H7.out.frozen 5 0 rfl
                have z1 := H7.out.frozen 5 1 rfl
                have h8 := ((H7.out.set 5 rfl 0 (.slice (some ⟨b2, 0, none⟩) (ws.length - 1) 0)).set 5 rfl 1 (.slice AF F.length cF))
                have HE := hid (h8.drop 2)
                have y8 := h8.cell 5 0 rfl rfl
                have y9 := h8.cell 5 1 rfl rfl
                clear h8 H7
                go_wp2_with fail
                exact bodyPost_ret (v := .tuple #[.agg #[.slice (some ⟨b2, 0, none⟩) (ws.length - 1) 0, .slice AF F.length cF], .int .i64 q, .bool false]) (by simp [results, Tryd.results9, go_sem, y8, y9]) rfl (l3P.no (HNO.out F AF cF hF1) (fun G hG => by rw [hno] at hG; cases hG) HE.out.first3)
              · have HR2 := hid (runS_succ HR.out.1 HX.out HIF.out hf)
                have p3 := H7.out.cell 3 1 rfl rfl
                have u0 := H7.out.cell 1 0 rfl rfl
                have u1 := H7.out.cell 1 1 rfl rfl
                have u2 := H7.out.cell 1 2 rfl rfl
                have u3 := H7.out.cell 1 3 rfl rfl
                have HS5 := hid (H7.out.blk_ (w5.heap.size) (by simp) 39 #[.int .i64 f.a, .int .i64 f.b, .int .i64 f.len, .int .i64 f.risk])
                clear H7 hf
                go_wp2_with (first
                  | (at_builtin; refine wpList_append_led rfl _ _ 23 rfl HS5.out 3 rfl Tryd.underlying23 hi hy0 hy1 (by rw [hy2]; decide) rfl rfl rfl (show Sees elFib _ _ _ 1 [f] from sees_new elFib _ f _ _ (by simp)) (by omega) HS5.out.bl.size ?_)
                  | go_in)
                intro A2 c3 w7 hS5
                have p5 := hS5.cell 4 1 rfl rfl
                have z5 := hS5.frozen 4 1 rfl
                have HS6 := hid ((hS5.set 4 rfl 1 (.slice A2 (F.length + 1) c3)).drop 3)
                clear HS5 hS5 p3
                have iw : IntKind.i64.wrap ((q : Int) + 1) = ((q + 1 : Nat) : Int) := by rw [IntWalk.i64_in _ (by omega)]; omega
                go_wp2
                go_roundw
                case rel => exact ⟨k + 1, q + 1, .slice A2 (F.length + 1) c3, F ++ [f], hid (by have := HQ.out; omega), by have := HQ.out; omega, by go_num, hid ⟨HR2.out, by rw [List.length_append, HFL.out]; rfl⟩, by first | exact HS6 | (rw [e2]; exact HS6)⟩
                case measure => simp [intOf]; omega
          · have he := str_ne ht5
            rw [wF_list] at he
            have HEND := hid (runS_stop HR.out.1 HX.out (isF_text ht5))
            clear ht5
            go_wp2_with fail
            skip
            refine wp_region_held_drew (S := fun w' => w'.cell? ⟨w2.heap.size, 0, none⟩ = some (.slice (some ⟨b2, 0, none⟩) (ws.length - 1) 0) ∧ w'.cell? ⟨w2.heap.size, 1, none⟩ = some (.slice AF F.length cF)) (by kernel_rfl) (⟨HS.out.cell 1 0 rfl rfl, HS.out.cell 1 1 rfl rfl⟩) (fun hHeld => ?_)
            refine wpAnyH_take (i := 0) (oi := _) (v := ?_) rfl (by kernel_rfl) (by kernel_rfl) (by kernel_rfl) (fun _ _ _ h => h) (Or.inl ⟨by rfl, ?_⟩) (by assumption) ?_
            rotate_left
            · intro w hSw; go_simp; with_reducible rfl
            simp only [Act.put, List.getElem_toArray, List.getElem_cons_zero, List.setIfInBounds_toArray, List.set_cons_zero, List.set_cons_succ]
            refine wpAnyH_take (i := 1) (oi := _) (v := ?_) rfl (by kernel_rfl) (by kernel_rfl) (by kernel_rfl) (fun _ _ _ h => h) (Or.inl ⟨by rfl, ?_⟩) (by assumption) ?_
            rotate_left
            · intro w hSw; go_simp; with_reducible rfl
            simp only [Act.put, List.getElem_toArray, List.getElem_cons_zero, List.getElem_cons_succ, List.setIfInBounds_toArray, List.set_cons_zero, List.set_cons_succ]
            refine wpAnyH_take (i := 2) (oi := _) (v := ?_) rfl (by kernel_rfl) (by kernel_rfl) (by kernel_rfl) (fun _ _ _ h => h) (Or.inl ⟨by rfl, ?_⟩) (by assumption) ?_
            rotate_left
            · intro w hSw; go_simp; with_reducible rfl
            simp only [Act.put, List.getElem_toArray, List.getElem_cons_zero, List.getElem_cons_succ, List.setIfInBounds_toArray, List.set_cons_zero, List.set_cons_succ]
            refine wpAnyH_ready (rs := [3]) (by kernel_rfl) (by simp) ?_
            refine AllReadyH.cons rfl (fun K hK => ?_) AllReadyH.nil
            have hd := HS.out.step (Cls.drew _)
            go_simp
            refine (goodN _ (HN.out.grow (Cls.drew _))).mono ?_
            rintro e w6 ⟨rfl, hb⟩
            have h6 := hd.step hb
            have hn6 := (HN.out.grow (Cls.drew _)).grow hb
            go_wp2_with fail
            refine hK.out _ _ (⟨h6.cell 1 0 rfl rfl, h6.cell 1 1 rfl rfl⟩) (fun hHeld => ?_)
            clear hK K
            try simp only [Act.put, List.getElem_toArray, List.getElem_cons_zero, List.getElem_cons_succ, List.setIfInBounds_toArray, List.set_cons_zero, List.set_cons_succ]
            have y0 := h6.cell 3 0 rfl rfl
            have y1 := h6.cell 3 1 rfl rfl
            have z0 := h6.frozen 3 0 rfl
            have z1 := h6.frozen 3 1 rfl
            have h7 := (h6.set 3 rfl 0 (.slice (some ⟨b2, 0, none⟩) (ws.length - 1) 0)).set 3 rfl 1 (.slice AF F.length cF)
            refine wpAnyH_ready (rs := [4]) (by kernel_rfl) (by simp) ?_
            refine AllReadyH.cons rfl (fun K hK => ?_) AllReadyH.nil
            go_simp
            go_wp2_with fail
            refine hK.out _ _ (⟨h7.cell 1 0 rfl rfl, h7.cell 1 1 rfl rfl⟩) (fun hHeld => ?_)
            clear hK K
            try simp only [Act.put, List.getElem_toArray, List.getElem_cons_zero, List.getElem_cons_succ, List.setIfInBounds_toArray, List.set_cons_zero, List.set_cons_succ]
            refine wpAnyH_take (i := 5) (oi := _) (v := ?_) rfl (by kernel_rfl) (by kernel_rfl) (by kernel_rfl) (fun _ _ _ h => h) (Or.inl ⟨by rfl, ?_⟩) (by assumption) ?_
            rotate_left
            · intro w hSw; go_simp; with_reducible rfl
            simp only [Act.put, List.getElem_toArray, List.getElem_cons_zero, List.getElem_cons_succ, List.setIfInBounds_toArray, List.set_cons_zero, List.set_cons_succ]
            refine wpAnyH_take (i := 6) (oi := _) (v := ?_) rfl (by kernel_rfl) (by kernel_rfl) (by kernel_rfl) (fun _ _ _ h => h) (Or.inl ⟨by rfl, ?_⟩) (by assumption) ?_
            rotate_left
            · intro w hSw; go_simp; with_reducible rfl
            simp only [Act.put, List.getElem_toArray, List.getElem_cons_zero, List.getElem_cons_succ, List.setIfInBounds_toArray, List.set_cons_zero, List.set_cons_succ]
            refine wpAnyH_done (by kernel_rfl) ?_ _
            have HE := hid h7
            have y0 := h7.cell 3 0 rfl rfl
            have y1 := h7.cell 3 1 rfl rfl
            clear h6 h7 hd hHeld z0 z1
            go_wp2_with fail
            exact bodyPost_ret (v := .tuple #[.agg #[.slice (some ⟨b2, 0, none⟩) (ws.length - 1) 0, .slice AF F.length cF], .int .i64 q, .bool (goodB XS F)]) (by simp [results, Tryd.results9, go_sem, y0, y1]) rfl (l3P.end_ (HNO.out F AF cF hF1) HEND.out rfl HE.out.first3)
        · have i5 : ¬ (x.size : Int) > 5 := by omega
          have HEND := hid (runS_stop HR.out.1 HX.out (isF_short h5))
          go_wp2_with fail
          skip
          refine wp_region_held_drew (S := fun w' => w'.cell? ⟨w2.heap.size, 0, none⟩ = some (.slice (some ⟨b2, 0, none⟩) (ws.length - 1) 0) ∧ w'.cell? ⟨w2.heap.size, 1, none⟩ = some (.slice AF F.length cF)) (by kernel_rfl) (⟨HS.out.cell 1 0 rfl rfl, HS.out.cell 1 1 rfl rfl⟩) (fun hHeld => ?_)
          refine wpAnyH_take (i := 0) (oi := _) (v := ?_) rfl (by kernel_rfl) (by kernel_rfl) (by kernel_rfl) (fun _ _ _ h => h) (Or.inl ⟨by rfl, ?_⟩) (by assumption) ?_
          rotate_left
          · intro w hSw; go_simp; with_reducible rfl
          simp only [Act.put, List.getElem_toArray, List.getElem_cons_zero, List.setIfInBounds_toArray, List.set_cons_zero, List.set_cons_succ]
          refine wpAnyH_take (i := 1) (oi := _) (v := ?_) rfl (by kernel_rfl) (by kernel_rfl) (by kernel_rfl) (fun _ _ _ h => h) (Or.inl ⟨by rfl, ?_⟩) (by assumption) ?_
          rotate_left
          · intro w hSw; go_simp; with_reducible rfl
          simp only [Act.put, List.getElem_toArray, List.getElem_cons_zero, List.getElem_cons_succ, List.setIfInBounds_toArray, List.set_cons_zero, List.set_cons_succ]
          refine wpAnyH_take (i := 2) (oi := _) (v := ?_) rfl (by kernel_rfl) (by kernel_rfl) (by kernel_rfl) (fun _ _ _ h => h) (Or.inl ⟨by rfl, ?_⟩) (by assumption) ?_
          rotate_left
          · intro w hSw; go_simp; with_reducible rfl
          simp only [Act.put, List.getElem_toArray, List.getElem_cons_zero, List.getElem_cons_succ, List.setIfInBounds_toArray, List.set_cons_zero, List.set_cons_succ]
          refine wpAnyH_ready (rs := [3]) (by kernel_rfl) (by simp) ?_
          refine AllReadyH.cons rfl (fun K hK => ?_) AllReadyH.nil
          have hd := HS.out.step (Cls.drew _)
          go_simp
          refine (goodN _ (HN.out.grow (Cls.drew _))).mono ?_
          rintro e w6 ⟨rfl, hb⟩
          have h6 := hd.step hb
          have hn6 := (HN.out.grow (Cls.drew _)).grow hb
          go_wp2_with fail
          refine hK.out _ _ (⟨h6.cell 1 0 rfl rfl, h6.cell 1 1 rfl rfl⟩) (fun hHeld => ?_)
          clear hK K
          try simp only [Act.put, List.getElem_toArray, List.getElem_cons_zero, List.getElem_cons_succ, List.setIfInBounds_toArray, List.set_cons_zero, List.set_cons_succ]
          have y0 := h6.cell 3 0 rfl rfl
          have y1 := h6.cell 3 1 rfl rfl
          have z0 := h6.frozen 3 0 rfl
          have z1 := h6.frozen 3 1 rfl
          have h7 := (h6.set 3 rfl 0 (.slice (some ⟨b2, 0, none⟩) (ws.length - 1) 0)).set 3 rfl 1 (.slice AF F.length cF)
          refine wpAnyH_ready (rs := [4]) (by kernel_rfl) (by simp) ?_
          refine AllReadyH.cons rfl (fun K hK => ?_) AllReadyH.nil
          go_simp
          go_wp2_with fail
          refine hK.out _ _ (⟨h7.cell 1 0 rfl rfl, h7.cell 1 1 rfl rfl⟩) (fun hHeld => ?_)
          clear hK K
          try simp only [Act.put, List.getElem_toArray, List.getElem_cons_zero, List.getElem_cons_succ, List.setIfInBounds_toArray, List.set_cons_zero, List.set_cons_succ]
          refine wpAnyH_take (i := 5) (oi := _) (v := ?_) rfl (by kernel_rfl) (by kernel_rfl) (by kernel_rfl) (fun _ _ _ h => h) (Or.inl ⟨by rfl, ?_⟩) (by assumption) ?_
          rotate_left
          · intro w hSw; go_simp; with_reducible rfl
          simp only [Act.put, List.getElem_toArray, List.getElem_cons_zero, List.getElem_cons_succ, List.setIfInBounds_toArray, List.set_cons_zero, List.set_cons_succ]
          refine wpAnyH_take (i := 6) (oi := _) (v := ?_) rfl (by kernel_rfl) (by kernel_rfl) (by kernel_rfl) (fun _ _ _ h => h) (Or.inl ⟨by rfl, ?_⟩) (by assumption) ?_
          rotate_left
          · intro w hSw; go_simp; with_reducible rfl
          simp only [Act.put, List.getElem_toArray, List.getElem_cons_zero, List.getElem_cons_succ, List.setIfInBounds_toArray, List.set_cons_zero, List.set_cons_succ]
          refine wpAnyH_done (by kernel_rfl) ?_ _
          have HE := hid h7
          have y0 := h7.cell 3 0 rfl rfl
          have y1 := h7.cell 3 1 rfl rfl
          clear h6 h7 hd hHeld z0 z1
          go_wp2_with fail
          exact bodyPost_ret (v := .tuple #[.agg #[.slice (some ⟨b2, 0, none⟩) (ws.length - 1) 0, .slice AF F.length cF], .int .i64 q, .bool (goodB XS F)]) (by simp [results, Tryd.results9, go_sem, y0, y1]) rfl (l3P.end_ (HNO.out F AF cF hF1) HEND.out rfl HE.out.first3)
      · have iq : ¬ (q : Int) < (LS.length : Int) := by omega
        have hkk : k = LS.length - 1 := by have := HQ.out; omega
        have HEND := hid (runS_end (L := TL) (F := F) (xs := XS) (by rw [HTL.out, ← hkk]; exact HR.out.1))
        clear hkk
        go_wp2_with fail
        skip
        refine wp_region_held_drew (S := fun w' => w'.cell? ⟨w2.heap.size, 0, none⟩ = some (.slice (some ⟨b2, 0, none⟩) (ws.length - 1) 0) ∧ w'.cell? ⟨w2.heap.size, 1, none⟩ = some (.slice AF F.length cF)) (by kernel_rfl) (⟨HS.out.cell 1 0 rfl rfl, HS.out.cell 1 1 rfl rfl⟩) (fun hHeld => ?_)
        refine wpAnyH_take (i := 0) (oi := _) (v := ?_) rfl (by kernel_rfl) (by kernel_rfl) (by kernel_rfl) (fun _ _ _ h => h) (Or.inl ⟨by rfl, ?_⟩) (by assumption) ?_
        rotate_left
        · intro w hSw; go_simp; with_reducible rfl
        simp only [Act.put, List.getElem_toArray, List.getElem_cons_zero, List.setIfInBounds_toArray, List.set_cons_zero, List.set_cons_succ]
        refine wpAnyH_take (i := 1) (oi := _) (v := ?_) rfl (by kernel_rfl) (by kernel_rfl) (by kernel_rfl) (fun _ _ _ h => h) (Or.inl ⟨by rfl, ?_⟩) (by assumption) ?_
        rotate_left
        · intro w hSw; go_simp; with_reducible rfl
        simp only [Act.put, List.getElem_toArray, List.getElem_cons_zero, List.getElem_cons_succ, List.setIfInBounds_toArray, List.set_cons_zero, List.set_cons_succ]
        refine wpAnyH_take (i := 2) (oi := _) (v := ?_) rfl (by kernel_rfl) (by kernel_rfl) (by kernel_rfl) (fun _ _ _ h => h) (Or.inl ⟨by rfl, ?_⟩) (by assumption) ?_
        rotate_left
        · intro w hSw; go_simp; with_reducible rfl
        simp only [Act.put, List.getElem_toArray, List.getElem_cons_zero, List.getElem_cons_succ, List.setIfInBounds_toArray, List.set_cons_zero, List.set_cons_succ]
        refine wpAnyH_ready (rs := [3]) (by kernel_rfl) (by simp) ?_
        refine AllReadyH.cons rfl (fun K hK => ?_) AllReadyH.nil
        have hd := HS.out.step (Cls.drew _)
        go_simp
        refine (goodN _ (HN.out.grow (Cls.drew _))).mono ?_
        rintro e w6 ⟨rfl, hb⟩
        have h6 := hd.step hb
        have hn6 := (HN.out.grow (Cls.drew _)).grow hb
        go_wp2_with fail
        refine hK.out _ _ (⟨h6.cell 1 0 rfl rfl, h6.cell 1 1 rfl rfl⟩) (fun hHeld => ?_)
        clear hK K
        try simp only [Act.put, List.getElem_toArray, List.getElem_cons_zero, List.getElem_cons_succ, List.setIfInBounds_toArray, List.set_cons_zero, List.set_cons_succ]
        have y0 := h6.cell 3 0 rfl rfl
        have y1 := h6.cell 3 1 rfl rfl
        have z0 := h6.frozen 3 0 rfl
        have z1 := h6.frozen 3 1 rfl
        have h7 := (h6.set 3 rfl 0 (.slice (some ⟨b2, 0, none⟩) (ws.length - 1) 0)).set 3 rfl 1 (.slice AF F.length cF)
        refine wpAnyH_ready (rs := [4]) (by kernel_rfl) (by simp) ?_
        refine AllReadyH.cons rfl (fun K hK => ?_) AllReadyH.nil
        go_simp
        go_wp2_with fail
        refine hK.out _ _ (⟨h7.cell 1 0 rfl rfl, h7.cell 1 1 rfl rfl⟩) (fun hHeld => ?_)
        clear hK K
        try simp only [Act.put, List.getElem_toArray, List.getElem_cons_zero, List.getElem_cons_succ, List.setIfInBounds_toArray, List.set_cons_zero, List.set_cons_succ]
        refine wpAnyH_take (i := 5) (oi := _) (v := ?_) rfl (by kernel_rfl) (by kernel_rfl) (by kernel_rfl) (fun _ _ _ h => h) (Or.inl ⟨by rfl, ?_⟩) (by assumption) ?_
        rotate_left
        · intro w hSw; go_simp; with_reducible rfl
        simp only [Act.put, List.getElem_toArray, List.getElem_cons_zero, List.getElem_cons_succ, List.setIfInBounds_toArray, List.set_cons_zero, List.set_cons_succ]
        refine wpAnyH_take (i := 6) (oi := _) (v := ?_) rfl (by kernel_rfl) (by kernel_rfl) (by kernel_rfl) (fun _ _ _ h => h) (Or.inl ⟨by rfl, ?_⟩) (by assumption) ?_
        rotate_left
        · intro w hSw; go_simp; with_reducible rfl
        simp only [Act.put, List.getElem_toArray, List.getElem_cons_zero, List.getElem_cons_succ, List.setIfInBounds_toArray, List.set_cons_zero, List.set_cons_succ]
        refine wpAnyH_done (by kernel_rfl) ?_ _
        have HE := hid h7
        have y0 := h7.cell 3 0 rfl rfl
        have y1 := h7.cell 3 1 rfl rfl
        clear h6 h7 hd hHeld z0 z1
        go_wp2_with fail
        exact bodyPost_ret (v := .tuple #[.agg #[.slice (some ⟨b2, 0, none⟩) (ws.length - 1) 0, .slice AF F.length cF], .int .i64 q, .bool (goodB XS F)]) (by simp [results, Tryd.results9, go_sem, y0, y1]) rfl (l3P.end_ (HNO.out F AF cF hF1) HEND.out rfl HE.out.first3)
  · skip
    have HNT := hid (fun (wr : World) (hw : Sees elStr wr wr.heap.size (some ⟨b2, 0, none⟩) ws.length ws) => (show Sees elStr wr wr.heap.size (some ⟨b2, 1, none⟩) (ws.length - 1) XS by rw [← HXS.out]; exact tail_sees hw rfl hw0 hc2 (by rw [if_neg e2])))
    have HNO := hid (fun (F : List Fib) (AF : Option Addr) (cF : Nat) (hF : F.length ≤ 4001) (wr : World) (h0 : Owns elFib wr w.heap.size 39 (.slice AF F.length cF) F) (h1 : Owns elStr wr w.heap.size 9 (.slice (some ⟨b2, 0, none⟩) ws.length c2) ws) => (show NetIs wr (some ⟨b2, 1, none⟩) (ws.length - 1) (c2 - 1) AF F.length cF XS F from by
      obtain ⟨_, _, hv, hcF, _, _⟩ := h0.form
      injection hv with _ _ h3
      exact ⟨⟨by omega, by omega⟩, ⟨by omega, by omega⟩, HNT.out _ h1.sees, h0.sees, HXZ.out⟩))
    have HNE := hid (fun (F : List Fib) (AF : Option Addr) (cF : Nat) (hF : F.length ≤ 4001) (v : Array Value) (wr : World) (h : Led w wr [tOwns elFib w.heap.size 39 (.slice AF F.length cF) F, tBlk w2.heap.size 25 #[.slice (some ⟨b2, 1, none⟩) (ws.length - 1) (c2 - 1), .slice AF F.length cF], tOwns elStr w.heap.size 9 (.slice (some ⟨b2, 0, none⟩) ws.length c2) ws, tBlk w.heap.size 25 v]) => HNO.out F AF cF hF wr (h.get 0 rfl) (h.get 2 rfl))
    go_wp2_with fail
    have HS3 := hid ((HS2.out.blk_ w2.heap.size rfl 25 #[.slice (some ⟨b2, 1, none⟩) (ws.length - 1) (c2 - 1), .slice none 0 0]).nilS elFib 39 w.heap.size)
    clear HS2
    go_loopw [7] (fun i wr => ∃ (k q : Nat) (vF : Value) (F : List Fib), Hid (q = 1 + k) ∧ k ≤ LS.length - 1 ∧ i = .int .i64 q ∧ Hid (runS XS TL k F ∧ F.length = k) ∧ Hid (Led w wr [tOwns elFib w.heap.size 39 vF F, tBlk w2.heap.size 25 #[.slice (some ⟨b2, 1, none⟩) (ws.length - 1) (c2 - 1), vF], tOwns elStr w.heap.size 9 (.slice (some ⟨b2, 0, none⟩) ws.length c2) ws, tBlk w.heap.size 25 #[.slice none 0 0, .slice none 0 0]])) (fun i _ => LS.length - (intOf i).toNat)
    case atStart => exact ⟨0, 1, _, [], hid rfl, Nat.zero_le _, rfl, hid ⟨runS_zero, rfl⟩, HS3⟩
    case round =>
      clear HS3
      obtain ⟨k, q, vF, F, HQ, hk, rfl, HR, HS⟩ := hrel
      obtain ⟨AF, cF, rfl, _⟩ := HS.out.form 0 rfl
      have HFL := hid HR.out.2
      have hF1 : F.length ≤ 4001 := by have := HFL.out; omega
      have HN := hid (HNE.out F AF cF hF1 _ wr HS.out)
      by_cases hlt : q < LS.length
      · obtain ⟨x, hx⟩ := get_of (k := q) (l := LS) rfl hlt
        have f1 := (HW.out.grow HS.out.bl).cell hx (j := 0) rfl
        simp only [elStr, Nat.mul_one, Nat.add_zero, Nat.zero_add] at f1
        have hxs := HZ.out x (List.mem_of_getElem? hx)
        have HX : Hid (TL[k]? = some x) := by unfold Hid; rw [HTG.out, ← HQ.out]; exact hx
        have iq : (q : Int) < (LS.length : Int) := by omega
        have HF1 := hid (fun (wr : World) (hb : Below w.heap.size w wr) => (show wr.cell? ⟨b1, q, none⟩ = some (.string x) from by
          have h := (HW.out.grow hb).cell hx (j := 0) rfl
          simpa [elStr] using h))
        have HPT : Hid (∀ y ∈ splA x 32, y.size ≤ 4000) := fun y hy => Nat.le_trans (part_sizeU (u := 32) hy) hxs
        clear hx
        by_cases h5 : 5 < x.size
        · have i5 : (x.size : Int) > 5 := by omega
          have j5 : 5 ≤ x.size := by omega
          by_cases ht5 : x.extract 0 5 = wF
          · have he : ((x.extract 0 5).toList == [102, 105, 98, 101, 114]) = true := by rw [ht5, wF_list]; exact beq_self_eq_true _
            have HIF := hid (isF_yes h5 ht5)
            clear ht5
            go_wp2_with fail
            refine wp_region_held_drew (S := fun w' => (w'.cell? ⟨w2.heap.size, 0, none⟩ = some (.slice (some ⟨b2, 1, none⟩) (ws.length - 1) (c2 - 1)) ∧ w'.cell? ⟨w2.heap.size, 1, none⟩ = some (.slice AF F.length cF)) ∧ w'.cell? ⟨b1, q, none⟩ = some (.string x)) (by kernel_rfl) (⟨⟨HS.out.cell 1 0 rfl rfl, HS.out.cell 1 1 rfl rfl⟩, HF1.out wr HS.out.bl⟩) (fun hHeld => ?_)
            refine wpAnyH_take (i := 0) (oi := _) (v := ?_) rfl (by kernel_rfl) (by kernel_rfl) (by kernel_rfl) (fun _ _ _ h => h) (Or.inl ⟨by rfl, ?_⟩) (by assumption) ?_
            rotate_left
            · intro w hSw; go_simp; with_reducible rfl
            simp only [Act.put, List.getElem_toArray, List.getElem_cons_zero, List.setIfInBounds_toArray, List.set_cons_zero, List.set_cons_succ]
            refine wpAnyH_take (i := 1) (oi := _) (v := ?_) rfl (by kernel_rfl) (by kernel_rfl) (by kernel_rfl) (fun _ _ _ h => h) (Or.inl ⟨by rfl, ?_⟩) (by assumption) ?_
            rotate_left
            · intro w hSw; go_simp; with_reducible rfl
            simp only [Act.put, List.getElem_toArray, List.getElem_cons_zero, List.getElem_cons_succ, List.setIfInBounds_toArray, List.set_cons_zero, List.set_cons_succ]
            refine wpAnyH_take (i := 2) (oi := _) (v := ?_) rfl (by kernel_rfl) (by kernel_rfl) (by kernel_rfl) (fun _ _ _ h => h) (Or.inl ⟨by rfl, ?_⟩) (by assumption) ?_
            rotate_left
            · intro w hSw; go_simp; with_reducible rfl
            simp only [Act.put, List.getElem_toArray, List.getElem_cons_zero, List.getElem_cons_succ, List.setIfInBounds_toArray, List.set_cons_zero, List.set_cons_succ]
            refine wpAnyH_take (i := 3) (oi := _) (v := ?_) rfl (by kernel_rfl) (by kernel_rfl) (by kernel_rfl) (fun _ _ _ h => h) (Or.inl ⟨by rfl, ?_⟩) (by assumption) ?_
            rotate_left
            · intro w hSw; go_simp; with_reducible rfl
            simp only [Act.put, List.getElem_toArray, List.getElem_cons_zero, List.getElem_cons_succ, List.setIfInBounds_toArray, List.set_cons_zero, List.set_cons_succ]
            refine wpAnyH_take (i := 4) (oi := _) (v := ?_) rfl (by kernel_rfl) (by kernel_rfl) (by kernel_rfl) (fun _ _ _ h => h) (Or.inl ⟨by rfl, ?_⟩) (by assumption) ?_
            rotate_left
            · intro w hSw; go_simp; with_reducible rfl
            simp only [Act.put, List.getElem_toArray, List.getElem_cons_zero, List.getElem_cons_succ, List.setIfInBounds_toArray, List.set_cons_zero, List.set_cons_succ]
            refine wpAnyH_ready (rs := [5, 10]) (by kernel_rfl) (by simp) ?_
            refine AllReadyH.cons rfl (fun K hK => ?_) ?_
            · skip
              have hd := HS.out.step (Cls.drew _)
              go_simp
              refine (l1Split_any x 32 _ (by omega)).mono ?_
              rintro e w4 ⟨v4, rfl, ho4, hb4⟩
              have h4 := hd.owns_ (b0 := w.heap.size) hb4 ho4 (Nat.le_refl _) hd.bl.size
              obtain ⟨A4, c4, hv4, _⟩ := h4.form 0 rfl
              subst hv4
              go_wp2_with fail
              refine hK.out _ _ (⟨⟨h4.cell 2 0 rfl rfl, h4.cell 2 1 rfl rfl⟩, HF1.out _ h4.bl⟩) (fun hHeld => ?_)
              clear hK K
              try simp only [Act.put, List.getElem_toArray, List.getElem_cons_zero, List.getElem_cons_succ, List.setIfInBounds_toArray, List.set_cons_zero, List.set_cons_succ]
              refine wpAnyH_ready (rs := [6, 10]) (by kernel_rfl) (by simp) ?_
              refine AllReadyH.cons rfl (fun K hK => ?_) ?_
              · skip
                go_simp
                refine (l3Fiber_any _ ((HN.out.grow (Cls.drew _)).grow hb4) (h4.sees (E := elStr) 0 rfl rfl) HPT.out).mono ?_
                rintro e w5 ⟨f, b, rfl, hf, hb5⟩
                have h5 := h4.step hb5
                go_wp2_with fail
                refine hK.out _ _ (⟨⟨h5.cell 2 0 rfl rfl, h5.cell 2 1 rfl rfl⟩, HF1.out _ h5.bl⟩) (fun hHeld => ?_)
                clear hK K
                try simp only [Act.put, List.getElem_toArray, List.getElem_cons_zero, List.getElem_cons_succ, List.setIfInBounds_toArray, List.set_cons_zero, List.set_cons_succ]
                refine wpAnyH_take (i := 7) (oi := _) (v := ?_) rfl (by kernel_rfl) (by kernel_rfl) (by kernel_rfl) (fun _ _ _ h => h) (Or.inl ⟨by rfl, ?_⟩) (by assumption) ?_
                rotate_left
                · intro w hSw; go_simp; with_reducible rfl
                simp only [Act.put, List.getElem_toArray, List.getElem_cons_zero, List.getElem_cons_succ, List.setIfInBounds_toArray, List.set_cons_zero, List.set_cons_succ]
                refine wpAnyH_take (i := 8) (oi := _) (v := ?_) rfl (by kernel_rfl) (by kernel_rfl) (by kernel_rfl) (fun _ _ _ h => h) (Or.inl ⟨by rfl, ?_⟩) (by assumption) ?_
                rotate_left
                · intro w hSw; go_simp; with_reducible rfl
                simp only [Act.put, List.getElem_toArray, List.getElem_cons_zero, List.getElem_cons_succ, List.setIfInBounds_toArray, List.set_cons_zero, List.set_cons_succ]
                refine wpAnyH_take (i := 9) (oi := _) (v := ?_) rfl (by kernel_rfl) (by kernel_rfl) (by kernel_rfl) (fun _ _ _ h => h) (Or.inl ⟨by rfl, ?_⟩) (by assumption) ?_
                rotate_left
                · intro w hSw; go_simp; with_reducible rfl
                simp only [Act.put, List.getElem_toArray, List.getElem_cons_zero, List.getElem_cons_succ, List.setIfInBounds_toArray, List.set_cons_zero, List.set_cons_succ]
                have h6 := h5.blk_ w5.heap.size rfl 39 #[.int .i64 0, .int .i64 0, .int .i64 0, .int .i64 0]
                refine wpAnyH_ready (rs := [10]) (by kernel_rfl) (by simp) ?_
                refine AllReadyH.cons rfl (fun K hK => ?_) AllReadyH.nil
                go_simp
                go_wp2_with fail
                refine hK.out _ _ (⟨⟨h6.cell 3 0 rfl rfl, h6.cell 3 1 rfl rfl⟩, HF1.out _ h6.bl⟩) (fun hHeld => ?_)
                clear hK K
                try simp only [Act.put, List.getElem_toArray, List.getElem_cons_zero, List.getElem_cons_succ, List.setIfInBounds_toArray, List.set_cons_zero, List.set_cons_succ]
                have y0 := h6.cell 0 0 rfl rfl
                have z0 := h6.frozen 0 0 rfl
                have y1 := h6.cell 0 1 rfl rfl
                have z1 := h6.frozen 0 1 rfl
                have y2 := h6.cell 0 2 rfl rfl
                have z2 := h6.frozen 0 2 rfl
                have y3 := h6.cell 0 3 rfl rfl
                have z3 := h6.frozen 0 3 rfl
                have h7 := h5.blk_ w5.heap.size rfl 39 #[.int .i64 f.a, .int .i64 f.b, .int .i64 f.len, .int .i64 f.risk]
                refine wpAnyH_ready (rs := [11]) (by kernel_rfl) (by simp) ?_
                refine AllReadyH.cons rfl (fun K hK => ?_) AllReadyH.nil
                go_simp
                go_wp2_with fail
                refine hK.out _ _ (⟨⟨h7.cell 3 0 rfl rfl, h7.cell 3 1 rfl rfl⟩, HF1.out _ h7.bl⟩) (fun hHeld => ?_)
                clear hK K
                try simp only [Act.put, List.getElem_toArray, List.getElem_cons_zero, List.getElem_cons_succ, List.setIfInBounds_toArray, List.set_cons_zero, List.set_cons_succ]
                refine wpAnyH_take (i := 12) (oi := _) (v := ?_) rfl (by kernel_rfl) (by kernel_rfl) (by kernel_rfl) (fun _ _ _ h => h) (Or.inl ⟨by rfl, ?_⟩) (by assumption) ?_
                rotate_left
                · intro w hSw; go_simp; with_reducible rfl
                simp only [Act.put, List.getElem_toArray, List.getElem_cons_zero, List.getElem_cons_succ, List.setIfInBounds_toArray, List.set_cons_zero, List.set_cons_succ]
                refine wpAnyH_done (by kernel_rfl) ?_ _
                have H7 := hid h7
                clear h7 h6 hHeld y0 y1 y2 y3 z0 z1 z2 z3
                cases b
                · have hno := runS_none HR.out.1 HX.out HIF.out hf
                  have q0 := H7.out.cell 3 0 rfl rfl
                  have q1 := H7.out.cell 3 1 rfl rfl
                  have y0 := H7.out.cell 5 0 rfl rfl
                  have y1 := H7.out.cell 5 1 rfl rfl
                  have z0 := H7.out.frozen 5 0 rfl
                  have z1 := H7.out.frozen 5 1 rfl
                  have h8 := ((H7.out.set 5 rfl 0 (.slice (some ⟨b2, 1, none⟩) (ws.length - 1) (c2 - 1))).set 5 rfl 1 (.slice AF F.length cF))
                  have HE := hid (h8.drop 2)
                  have y8 := h8.cell 5 0 rfl rfl
                  have y9 := h8.cell 5 1 rfl rfl
                  clear h8 H7
                  go_wp2_with fail
                  exact bodyPost_ret (v := .tuple #[.agg #[.slice (some ⟨b2, 1, none⟩) (ws.length - 1) (c2 - 1), .slice AF F.length cF], .int .i64 q, .bool false]) (by simp [results, Tryd.results9, go_sem, y8, y9]) rfl (l3P.no (HNO.out F AF cF hF1) (fun G hG => by rw [hno] at hG; cases hG) HE.out.first3)
                · have HR2 := hid (runS_succ HR.out.1 HX.out HIF.out hf)
                  have p3 := H7.out.cell 3 1 rfl rfl
                  have u0 := H7.out.cell 0 0 rfl rfl
                  have u1 := H7.out.cell 0 1 rfl rfl
                  have u2 := H7.out.cell 0 2 rfl rfl
                  have u3 := H7.out.cell 0 3 rfl rfl
                  have HS5 := hid (H7.out.blk_ (w5.heap.size + 1) (by simp) 39 #[.int .i64 f.a, .int .i64 f.b, .int .i64 f.len, .int .i64 f.risk])
                  clear H7 hf
                  go_wp2_with (first
                    | (at_builtin; refine wpList_append_led rfl _ _ 23 rfl HS5.out 3 rfl Tryd.underlying23 hi hy0 hy1 (by rw [hy2]; decide) rfl rfl rfl (show Sees elFib _ _ _ 1 [f] from sees_new elFib _ f _ _ (by simp)) (by omega) HS5.out.bl.size ?_)
                    | go_in)
                  intro A2 c3 w7 hS5
                  have p5 := hS5.cell 4 1 rfl rfl
                  have z5 := hS5.frozen 4 1 rfl
                  have HS6 := hid ((hS5.set 4 rfl 1 (.slice A2 (F.length + 1) c3)).drop 3)
                  clear HS5 hS5 p3
                  have iw : IntKind.i64.wrap ((q : Int) + 1) = ((q + 1 : Nat) : Int) := by rw [IntWalk.i64_in _ (by omega)]; omega
                  go_wp2
                  go_roundw
                  case rel => exact ⟨k + 1, q + 1, .slice A2 (F.length + 1) c3, F ++ [f], hid (by have := HQ.out; omega), by have := HQ.out; omega, by go_num, hid ⟨HR2.out, by rw [List.length_append, HFL.out]; rfl⟩, by first | exact HS6 | (rw [e2]; exact HS6)⟩
                  case measure => simp [intOf]; omega
              · skip
                have h4a := h4.blk_ w4.heap.size rfl 39 #[.int .i64 0, .int .i64 0, .int .i64 0, .int .i64 0]
                refine AllReadyH.cons rfl (fun K hK => ?_) AllReadyH.nil
                go_simp
                go_wp2_with fail
                refine hK.out _ _ (⟨⟨h4a.cell 3 0 rfl rfl, h4a.cell 3 1 rfl rfl⟩, HF1.out _ h4a.bl⟩) (fun hHeld => ?_)
                clear hK K
                try simp only [Act.put, List.getElem_toArray, List.getElem_cons_zero, List.getElem_cons_succ, List.setIfInBounds_toArray, List.set_cons_zero, List.set_cons_succ]
                refine wpAnyH_ready (rs := [6]) (by kernel_rfl) (by simp) ?_
                refine AllReadyH.cons rfl (fun K hK => ?_) AllReadyH.nil
                go_simp
                refine (l3Fiber_any _ (HNE.out F AF cF hF1 _ _ (h4a.drop 2)) (h4a.sees (E := elStr) 1 rfl rfl) HPT.out).mono ?_
                rintro e w5 ⟨f, b, rfl, hf, hb5⟩
                have h5 := h4a.step hb5
                go_wp2_with fail
                refine hK.out _ _ (⟨⟨h5.cell 3 0 rfl rfl, h5.cell 3 1 rfl rfl⟩, HF1.out _ h5.bl⟩) (fun hHeld => ?_)
                clear hK K
                try simp only [Act.put, List.getElem_toArray, List.getElem_cons_zero, List.getElem_cons_succ, List.setIfInBounds_toArray, List.set_cons_zero, List.set_cons_succ]
                refine wpAnyH_take (i := 7) (oi := _) (v := ?_) rfl (by kernel_rfl) (by kernel_rfl) (by kernel_rfl) (fun _ _ _ h => h) (Or.inl ⟨by rfl, ?_⟩) (by assumption) ?_
                rotate_left
                · intro w hSw; go_simp; with_reducible rfl
                simp only [Act.put, List.getElem_toArray, List.getElem_cons_zero, List.getElem_cons_succ, List.setIfInBounds_toArray, List.set_cons_zero, List.set_cons_succ]
                refine wpAnyH_take (i := 8) (oi := _) (v := ?_) rfl (by kernel_rfl) (by kernel_rfl) (by kernel_rfl) (fun _ _ _ h => h) (Or.inl ⟨by rfl, ?_⟩) (by assumption) ?_
                rotate_left
                · intro w hSw; go_simp; with_reducible rfl
                simp only [Act.put, List.getElem_toArray, List.getElem_cons_zero, List.getElem_cons_succ, List.setIfInBounds_toArray, List.set_cons_zero, List.set_cons_succ]
                refine wpAnyH_take (i := 9) (oi := _) (v := ?_) rfl (by kernel_rfl) (by kernel_rfl) (by kernel_rfl) (fun _ _ _ h => h) (Or.inl ⟨by rfl, ?_⟩) (by assumption) ?_
                rotate_left
                · intro w hSw; go_simp; with_reducible rfl
                simp only [Act.put, List.getElem_toArray, List.getElem_cons_zero, List.getElem_cons_succ, List.setIfInBounds_toArray, List.set_cons_zero, List.set_cons_succ]
                have h6 := h5
                have y0 := h6.cell 0 0 rfl rfl
                have z0 := h6.frozen 0 0 rfl
                have y1 := h6.cell 0 1 rfl rfl
                have z1 := h6.frozen 0 1 rfl
                have y2 := h6.cell 0 2 rfl rfl
                have z2 := h6.frozen 0 2 rfl
                have y3 := h6.cell 0 3 rfl rfl
                have z3 := h6.frozen 0 3 rfl
                have h7 := (((h6.set 0 rfl 0 (.int .i64 f.a)).set 0 rfl 1 (.int .i64 f.b)).set 0 rfl 2 (.int .i64 f.len)).set 0 rfl 3 (.int .i64 f.risk)
                refine wpAnyH_ready (rs := [11]) (by kernel_rfl) (by simp) ?_
                refine AllReadyH.cons rfl (fun K hK => ?_) AllReadyH.nil
                go_simp
                go_wp2_with fail
                refine hK.out _ _ (⟨⟨h7.cell 3 0 rfl rfl, h7.cell 3 1 rfl rfl⟩, HF1.out _ h7.bl⟩) (fun hHeld => ?_)
                clear hK K
                try simp only [Act.put, List.getElem_toArray, List.getElem_cons_zero, List.getElem_cons_succ, List.setIfInBounds_toArray, List.set_cons_zero, List.set_cons_succ]
                refine wpAnyH_take (i := 12) (oi := _) (v := ?_) rfl (by kernel_rfl) (by kernel_rfl) (by kernel_rfl) (fun _ _ _ h => h) (Or.inl ⟨by rfl, ?_⟩) (by assumption) ?_
                rotate_left
                · intro w hSw; go_simp; with_reducible rfl
                simp only [Act.put, List.getElem_toArray, List.getElem_cons_zero, List.getElem_cons_succ, List.setIfInBounds_toArray, List.set_cons_zero, List.set_cons_succ]
                refine wpAnyH_done (by kernel_rfl) ?_ _
                have H7 := hid h7
                clear h7 h6 hHeld y0 y1 y2 y3 z0 z1 z2 z3
                cases b
                · have hno := runS_none HR.out.1 HX.out HIF.out hf
                  have q0 := H7.out.cell 3 0 rfl rfl
                  have q1 := H7.out.cell 3 1 rfl rfl
                  have y0 := H7.out.cell 5 0 rfl rfl
                  have y1 := H7.out.cell 5 1 rfl rfl
                  have z0 := H7.out.frozen 5 0 rfl
                  have z1 := H7.out.frozen 5 1 rfl
                  have h8 := ((H7.out.set 5 rfl 0 (.slice (some ⟨b2, 1, none⟩) (ws.length - 1) (c2 - 1))).set 5 rfl 1 (.slice AF F.length cF))
                  have HE := hid (h8.drop 2)
                  have y8 := h8.cell 5 0 rfl rfl
                  have y9 := h8.cell 5 1 rfl rfl
                  clear h8 H7
                  go_wp2_with fail
                  exact bodyPost_ret (v := .tuple #[.agg #[.slice (some ⟨b2, 1, none⟩) (ws.length - 1) (c2 - 1), .slice AF F.length cF], .int .i64 q, .bool false]) (by simp [results, Tryd.results9, go_sem, y8, y9]) rfl (l3P.no (HNO.out F AF cF hF1) (fun G hG => by rw [hno] at hG; cases hG) HE.out.first3)
                · have HR2 := hid (runS_succ HR.out.1 HX.out HIF.out hf)
                  have p3 := H7.out.cell 3 1 rfl rfl
                  have u0 := H7.out.cell 0 0 rfl rfl
                  have u1 := H7.out.cell 0 1 rfl rfl
                  have u2 := H7.out.cell 0 2 rfl rfl
                  have u3 := H7.out.cell 0 3 rfl rfl
                  have HS5 := hid (H7.out.blk_ (w5.heap.size) (by simp) 39 #[.int .i64 f.a, .int .i64 f.b, .int .i64 f.len, .int .i64 f.risk])
                  clear H7 hf
                  go_wp2_with (first
                    | (at_builtin; refine wpList_append_led rfl _ _ 23 rfl HS5.out 3 rfl Tryd.underlying23 hi hy0 hy1 (by rw [hy2]; decide) rfl rfl rfl (show Sees elFib _ _ _ 1 [f] from sees_new elFib _ f _ _ (by simp)) (by omega) HS5.out.bl.size ?_)
                    | go_in)
                  intro A2 c3 w7 hS5
                  have p5 := hS5.cell 4 1 rfl rfl
                  have z5 := hS5.frozen 4 1 rfl
                  have HS6 := hid ((hS5.set 4 rfl 1 (.slice A2 (F.length + 1) c3)).drop 3)
                  clear HS5 hS5 p3
                  have iw : IntKind.i64.wrap ((q : Int) + 1) = ((q + 1 : Nat) : Int) := by rw [IntWalk.i64_in _ (by omega)]; omega
                  go_wp2
                  go_roundw
                  case rel => exact ⟨k + 1, q + 1, .slice A2 (F.length + 1) c3, F ++ [f], hid (by have := HQ.out; omega), by have := HQ.out; omega, by go_num, hid ⟨HR2.out, by rw [List.length_append, HFL.out]; rfl⟩, by first | exact HS6 | (rw [e2]; exact HS6)⟩
                  case measure => simp [intOf]; omega
            · skip
              have hd := (HS.out.blk_ wr.heap.size rfl 39 #[.int .i64 0, .int .i64 0, .int .i64 0, .int .i64 0]).step (Cls.drew _)
              refine AllReadyH.cons rfl (fun K hK => ?_) AllReadyH.nil
              go_simp
              go_wp2_with fail
              refine hK.out _ _ (⟨⟨hd.cell 2 0 rfl rfl, hd.cell 2 1 rfl rfl⟩, HF1.out _ hd.bl⟩) (fun hHeld => ?_)
              clear hK K
              try simp only [Act.put, List.getElem_toArray, List.getElem_cons_zero, List.getElem_cons_succ, List.setIfInBounds_toArray, List.set_cons_zero, List.set_cons_succ]
              refine wpAnyH_ready (rs := [5]) (by kernel_rfl) (by simp) ?_
              refine AllReadyH.cons rfl (fun K hK => ?_) AllReadyH.nil
              go_simp
              refine (l1Split_any x 32 _ (by omega)).mono ?_
              rintro e w4 ⟨v4, rfl, ho4, hb4⟩
              have h4 := hd.owns_ (b0 := w.heap.size) hb4 ho4 (Nat.le_refl _) hd.bl.size
              obtain ⟨A4, c4, hv4, _⟩ := h4.form 0 rfl
              subst hv4
              go_wp2_with fail
              refine hK.out _ _ (⟨⟨h4.cell 3 0 rfl rfl, h4.cell 3 1 rfl rfl⟩, HF1.out _ h4.bl⟩) (fun hHeld => ?_)
              clear hK K
              try simp only [Act.put, List.getElem_toArray, List.getElem_cons_zero, List.getElem_cons_succ, List.setIfInBounds_toArray, List.set_cons_zero, List.set_cons_succ]
              refine wpAnyH_ready (rs := [6]) (by kernel_rfl) (by simp) ?_
              refine AllReadyH.cons rfl (fun K hK => ?_) AllReadyH.nil
              go_simp
              refine (l3Fiber_any _ (HNE.out F AF cF hF1 _ _ (h4.drop 2)) (h4.sees (E := elStr) 0 rfl rfl) HPT.out).mono ?_
              rintro e w5 ⟨f, b, rfl, hf, hb5⟩
              have h5 := h4.step hb5
              go_wp2_with fail
              refine hK.out _ _ (⟨⟨h5.cell 3 0 rfl rfl, h5.cell 3 1 rfl rfl⟩, HF1.out _ h5.bl⟩) (fun hHeld => ?_)
              clear hK K
              try simp only [Act.put, List.getElem_toArray, List.getElem_cons_zero, List.getElem_cons_succ, List.setIfInBounds_toArray, List.set_cons_zero, List.set_cons_succ]
              refine wpAnyH_take (i := 7) (oi := _) (v := ?_) rfl (by kernel_rfl) (by kernel_rfl) (by kernel_rfl) (fun _ _ _ h => h) (Or.inl ⟨by rfl, ?_⟩) (by assumption) ?_
              rotate_left
              · intro w hSw; go_simp; with_reducible rfl
              simp only [Act.put, List.getElem_toArray, List.getElem_cons_zero, List.getElem_cons_succ, List.setIfInBounds_toArray, List.set_cons_zero, List.set_cons_succ]
              refine wpAnyH_take (i := 8) (oi := _) (v := ?_) rfl (by kernel_rfl) (by kernel_rfl) (by kernel_rfl) (fun _ _ _ h => h) (Or.inl ⟨by rfl, ?_⟩) (by assumption) ?_
              rotate_left
              · intro w hSw; go_simp; with_reducible rfl
              simp only [Act.put, List.getElem_toArray, List.getElem_cons_zero, List.getElem_cons_succ, List.setIfInBounds_toArray, List.set_cons_zero, List.set_cons_succ]
              refine wpAnyH_take (i := 9) (oi := _) (v := ?_) rfl (by kernel_rfl) (by kernel_rfl) (by kernel_rfl) (fun _ _ _ h => h) (Or.inl ⟨by rfl, ?_⟩) (by assumption) ?_
              rotate_left
              · intro w hSw; go_simp; with_reducible rfl
              simp only [Act.put, List.getElem_toArray, List.getElem_cons_zero, List.getElem_cons_succ, List.setIfInBounds_toArray, List.set_cons_zero, List.set_cons_succ]
              have h6 := h5
              have y0 := h6.cell 1 0 rfl rfl
              have z0 := h6.frozen 1 0 rfl
              have y1 := h6.cell 1 1 rfl rfl
              have z1 := h6.frozen 1 1 rfl
              have y2 := h6.cell 1 2 rfl rfl
              have z2 := h6.frozen 1 2 rfl
              have y3 := h6.cell 1 3 rfl rfl
              have z3 := h6.frozen 1 3 rfl
              have h7 := (((h6.set 1 rfl 0 (.int .i64 f.a)).set 1 rfl 1 (.int .i64 f.b)).set 1 rfl 2 (.int .i64 f.len)).set 1 rfl 3 (.int .i64 f.risk)
              refine wpAnyH_ready (rs := [11]) (by kernel_rfl) (by simp) ?_
              refine AllReadyH.cons rfl (fun K hK => ?_) AllReadyH.nil
              go_simp
              go_wp2_with fail
              refine hK.out _ _ (⟨⟨h7.cell 3 0 rfl rfl, h7.cell 3 1 rfl rfl⟩, HF1.out _ h7.bl⟩) (fun hHeld => ?_)
              clear hK K
              try simp only [Act.put, List.getElem_toArray, List.getElem_cons_zero, List.getElem_cons_succ, List.setIfInBounds_toArray, List.set_cons_zero, List.set_cons_succ]
              refine wpAnyH_take (i := 12) (oi := _) (v := ?_) rfl (by kernel_rfl) (by kernel_rfl) (by kernel_rfl) (fun _ _ _ h => h) (Or.inl ⟨by rfl, ?_⟩) (by assumption) ?_
              rotate_left
              · intro w hSw; go_simp; with_reducible rfl
              simp only [Act.put, List.getElem_toArray, List.getElem_cons_zero, List.getElem_cons_succ, List.setIfInBounds_toArray, List.set_cons_zero, List.set_cons_succ]
              refine wpAnyH_done (by kernel_rfl) ?_ _
              have H7 := hid h7
              clear h7 h6 hHeld y0 y1 y2 y3 z0 z1 z2 z3
              cases b
              · have hno := runS_none HR.out.1 HX.out HIF.out hf
                have q0 := H7.out.cell 3 0 rfl rfl
                have q1 := H7.out.cell 3 1 rfl rfl
                have y0 := H7.out.cell 5 0 rfl rfl
                have y1 := H7.out.cell 5 1 rfl rfl
                have z0 := H7.out.frozen 5 0 rfl
                have z1 := H7.out.frozen 5 1 rfl
                have h8 := ((H7.out.set 5 rfl 0 (.slice (some ⟨b2, 1, none⟩) (ws.length - 1) (c2 - 1))).set 5 rfl 1 (.slice AF F.length cF))
                have HE := hid (h8.drop 2)
                have y8 := h8.cell 5 0 rfl rfl
                have y9 := h8.cell 5 1 rfl rfl
                clear h8 H7
                go_wp2_with fail
                exact bodyPost_ret (v := .tuple #[.agg #[.slice (some ⟨b2, 1, none⟩) (ws.length - 1) (c2 - 1), .slice AF F.length cF], .int .i64 q, .bool false]) (by simp [results, Tryd.results9, go_sem, y8, y9]) rfl (l3P.no (HNO.out F AF cF hF1) (fun G hG => by rw [hno] at hG; cases hG) HE.out.first3)
              · have HR2 := hid (runS_succ HR.out.1 HX.out HIF.out hf)
                have p3 := H7.out.cell 3 1 rfl rfl
                have u0 := H7.out.cell 1 0 rfl rfl
                have u1 := H7.out.cell 1 1 rfl rfl
                have u2 := H7.out.cell 1 2 rfl rfl
                have u3 := H7.out.cell 1 3 rfl rfl
                have HS5 := hid (H7.out.blk_ (w5.heap.size) (by simp) 39 #[.int .i64 f.a, .int .i64 f.b, .int .i64 f.len, .int .i64 f.risk])
                clear H7 hf
                go_wp2_with (first
                  | (at_builtin; refine wpList_append_led rfl _ _ 23 rfl HS5.out 3 rfl Tryd.underlying23 hi hy0 hy1 (by rw [hy2]; decide) rfl rfl rfl (show Sees elFib _ _ _ 1 [f] from sees_new elFib _ f _ _ (by simp)) (by omega) HS5.out.bl.size ?_)
                  | go_in)
                intro A2 c3 w7 hS5
                have p5 := hS5.cell 4 1 rfl rfl
                have z5 := hS5.frozen 4 1 rfl
                have HS6 := hid ((hS5.set 4 rfl 1 (.slice A2 (F.length + 1) c3)).drop 3)
                clear HS5 hS5 p3
                have iw : IntKind.i64.wrap ((q : Int) + 1) = ((q + 1 : Nat) : Int) := by rw [IntWalk.i64_in _ (by omega)]; omega
                go_wp2
                go_roundw
                case rel => exact ⟨k + 1, q + 1, .slice A2 (F.length + 1) c3, F ++ [f], hid (by have := HQ.out; omega), by have := HQ.out; omega, by go_num, hid ⟨HR2.out, by rw [List.length_append, HFL.out]; rfl⟩, by first | exact HS6 | (rw [e2]; exact HS6)⟩
                case measure => simp [intOf]; omega
          · have he := str_ne ht5
            rw [wF_list] at he
            have HEND := hid (runS_stop HR.out.1 HX.out (isF_text ht5))
            clear ht5
            go_wp2_with fail
            skip
            refine wp_region_held_drew (S := fun w' => w'.cell? ⟨w2.heap.size, 0, none⟩ = some (.slice (some ⟨b2, 1, none⟩) (ws.length - 1) (c2 - 1)) ∧ w'.cell? ⟨w2.heap.size, 1, none⟩ = some (.slice AF F.length cF)) (by kernel_rfl) (⟨HS.out.cell 1 0 rfl rfl, HS.out.cell 1 1 rfl rfl⟩) (fun hHeld => ?_)
            refine wpAnyH_take (i := 0) (oi := _) (v := ?_) rfl (by kernel_rfl) (by kernel_rfl) (by kernel_rfl) (fun _ _ _ h => h) (Or.inl ⟨by rfl, ?_⟩) (by assumption) ?_
            rotate_left
            · intro w hSw; go_simp; with_reducible rfl
            simp only [Act.put, List.getElem_toArray, List.getElem_cons_zero, List.setIfInBounds_toArray, List.set_cons_zero, List.set_cons_succ]
            refine wpAnyH_take (i := 1) (oi := _) (v := ?_) rfl (by kernel_rfl) (by kernel_rfl) (by kernel_rfl) (fun _ _ _ h => h) (Or.inl ⟨by rfl, ?_⟩) (by assumption) ?_
            rotate_left
            · intro w hSw; go_simp; with_reducible rfl
            simp only [Act.put, List.getElem_toArray, List.getElem_cons_zero, List.getElem_cons_succ, List.setIfInBounds_toArray, List.set_cons_zero, List.set_cons_succ]
            refine wpAnyH_take (i := 2) (oi := _) (v := ?_) rfl (by kernel_rfl) (by kernel_rfl) (by kernel_rfl) (fun _ _ _ h => h) (Or.inl ⟨by rfl, ?_⟩) (by assumption) ?_
            rotate_left
            · intro w hSw; go_simp; with_reducible rfl
            simp only [Act.put, List.getElem_toArray, List.getElem_cons_zero, List.getElem_cons_succ, List.setIfInBounds_toArray, List.set_cons_zero, List.set_cons_succ]
            refine wpAnyH_ready (rs := [3]) (by kernel_rfl) (by simp) ?_
            refine AllReadyH.cons rfl (fun K hK => ?_) AllReadyH.nil
            have hd := HS.out.step (Cls.drew _)
            go_simp
            refine (goodN _ (HN.out.grow (Cls.drew _))).mono ?_
            rintro e w6 ⟨rfl, hb⟩
            have h6 := hd.step hb
            have hn6 := (HN.out.grow (Cls.drew _)).grow hb
            go_wp2_with fail
            refine hK.out _ _ (⟨h6.cell 1 0 rfl rfl, h6.cell 1 1 rfl rfl⟩) (fun hHeld => ?_)
            clear hK K
            try simp only [Act.put, List.getElem_toArray, List.getElem_cons_zero, List.getElem_cons_succ, List.setIfInBounds_toArray, List.set_cons_zero, List.set_cons_succ]
            have y0 := h6.cell 3 0 rfl rfl
            have y1 := h6.cell 3 1 rfl rfl
            have z0 := h6.frozen 3 0 rfl
            have z1 := h6.frozen 3 1 rfl
            have h7 := (h6.set 3 rfl 0 (.slice (some ⟨b2, 1, none⟩) (ws.length - 1) (c2 - 1))).set 3 rfl 1 (.slice AF F.length cF)
            refine wpAnyH_ready (rs := [4]) (by kernel_rfl) (by simp) ?_
            refine AllReadyH.cons rfl (fun K hK => ?_) AllReadyH.nil
            go_simp
            go_wp2_with fail
            refine hK.out _ _ (⟨h7.cell 1 0 rfl rfl, h7.cell 1 1 rfl rfl⟩) (fun hHeld => ?_)
            clear hK K
            try simp only [Act.put, List.getElem_toArray, List.getElem_cons_zero, List.getElem_cons_succ, List.setIfInBounds_toArray, List.set_cons_zero, List.set_cons_succ]
            refine wpAnyH_take (i := 5) (oi := _) (v := ?_) rfl (by kernel_rfl) (by kernel_rfl) (by kernel_rfl) (fun _ _ _ h => h) (Or.inl ⟨by rfl, ?_⟩) (by assumption) ?_
            rotate_left
            · intro w hSw; go_simp; with_reducible rfl
            simp only [Act.put, List.getElem_toArray, List.getElem_cons_zero, List.getElem_cons_succ, List.setIfInBounds_toArray, List.set_cons_zero, List.set_cons_succ]
            refine wpAnyH_take (i := 6) (oi := _) (v := ?_) rfl (by kernel_rfl) (by kernel_rfl) (by kernel_rfl) (fun _ _ _ h => h) (Or.inl ⟨by rfl, ?_⟩) (by assumption) ?_
            rotate_left
            · intro w hSw; go_simp; with_reducible rfl
            simp only [Act.put, List.getElem_toArray, List.getElem_cons_zero, List.getElem_cons_succ, List.setIfInBounds_toArray, List.set_cons_zero, List.set_cons_succ]
            refine wpAnyH_done (by kernel_rfl) ?_ _
            have HE := hid h7
            have y0 := h7.cell 3 0 rfl rfl
            have y1 := h7.cell 3 1 rfl rfl
            clear h6 h7 hd hHeld z0 z1
            go_wp2_with fail
            exact bodyPost_ret (v := .tuple #[.agg #[.slice (some ⟨b2, 1, none⟩) (ws.length - 1) (c2 - 1), .slice AF F.length cF], .int .i64 q, .bool (goodB XS F)]) (by simp [results, Tryd.results9, go_sem, y0, y1]) rfl (l3P.end_ (HNO.out F AF cF hF1) HEND.out rfl HE.out.first3)
        · have i5 : ¬ (x.size : Int) > 5 := by omega
          have HEND := hid (runS_stop HR.out.1 HX.out (isF_short h5))
          go_wp2_with fail
          skip
          refine wp_region_held_drew (S := fun w' => w'.cell? ⟨w2.heap.size, 0, none⟩ = some (.slice (some ⟨b2, 1, none⟩) (ws.length - 1) (c2 - 1)) ∧ w'.cell? ⟨w2.heap.size, 1, none⟩ = some (.slice AF F.length cF)) (by kernel_rfl) (⟨HS.out.cell 1 0 rfl rfl, HS.out.cell 1 1 rfl rfl⟩) (fun hHeld => ?_)
          refine wpAnyH_take (i := 0) (oi := _) (v := ?_) rfl (by kernel_rfl) (by kernel_rfl) (by kernel_rfl) (fun _ _ _ h => h) (Or.inl ⟨by rfl, ?_⟩) (by assumption) ?_
          rotate_left
          · intro w hSw; go_simp; with_reducible rfl
          simp only [Act.put, List.getElem_toArray, List.getElem_cons_zero, List.setIfInBounds_toArray, List.set_cons_zero, List.set_cons_succ]
          refine wpAnyH_take (i := 1) (oi := _) (v := ?_) rfl (by kernel_rfl) (by kernel_rfl) (by kernel_rfl) (fun _ _ _ h => h) (Or.inl ⟨by rfl, ?_⟩) (by assumption) ?_
          rotate_left
          · intro w hSw; go_simp; with_reducible rfl
          simp only [Act.put, List.getElem_toArray, List.getElem_cons_zero, List.getElem_cons_succ, List.setIfInBounds_toArray, List.set_cons_zero, List.set_cons_succ]
          refine wpAnyH_take (i := 2) (oi := _) (v := ?_) rfl (by kernel_rfl) (by kernel_rfl) (by kernel_rfl) (fun _ _ _ h => h) (Or.inl ⟨by rfl, ?_⟩) (by assumption) ?_
          rotate_left
          · intro w hSw; go_simp; with_reducible rfl
          simp only [Act.put, List.getElem_toArray, List.getElem_cons_zero, List.getElem_cons_succ, List.setIfInBounds_toArray, List.set_cons_zero, List.set_cons_succ]
          refine wpAnyH_ready (rs := [3]) (by kernel_rfl) (by simp) ?_
          refine AllReadyH.cons rfl (fun K hK => ?_) AllReadyH.nil
          have hd := HS.out.step (Cls.drew _)
          go_simp
          refine (goodN _ (HN.out.grow (Cls.drew _))).mono ?_
          rintro e w6 ⟨rfl, hb⟩
          have h6 := hd.step hb
          have hn6 := (HN.out.grow (Cls.drew _)).grow hb
          go_wp2_with fail
          refine hK.out _ _ (⟨h6.cell 1 0 rfl rfl, h6.cell 1 1 rfl rfl⟩) (fun hHeld => ?_)
          clear hK K
          try simp only [Act.put, List.getElem_toArray, List.getElem_cons_zero, List.getElem_cons_succ, List.setIfInBounds_toArray, List.set_cons_zero, List.set_cons_succ]
          have y0 := h6.cell 3 0 rfl rfl
          have y1 := h6.cell 3 1 rfl rfl
          have z0 := h6.frozen 3 0 rfl
          have z1 := h6.frozen 3 1 rfl
          have h7 := (h6.set 3 rfl 0 (.slice (some ⟨b2, 1, none⟩) (ws.length - 1) (c2 - 1))).set 3 rfl 1 (.slice AF F.length cF)
          refine wpAnyH_ready (rs := [4]) (by kernel_rfl) (by simp) ?_
          refine AllReadyH.cons rfl (fun K hK => ?_) AllReadyH.nil
          go_simp
          go_wp2_with fail
          refine hK.out _ _ (⟨h7.cell 1 0 rfl rfl, h7.cell 1 1 rfl rfl⟩) (fun hHeld => ?_)
          clear hK K
          try simp only [Act.put, List.getElem_toArray, List.getElem_cons_zero, List.getElem_cons_succ, List.setIfInBounds_toArray, List.set_cons_zero, List.set_cons_succ]
          refine wpAnyH_take (i := 5) (oi := _) (v := ?_) rfl (by kernel_rfl) (by kernel_rfl) (by kernel_rfl) (fun _ _ _ h => h) (Or.inl ⟨by rfl, ?_⟩) (by assumption) ?_
          rotate_left
          · intro w hSw; go_simp; with_reducible rfl
          simp only [Act.put, List.getElem_toArray, List.getElem_cons_zero, List.getElem_cons_succ, List.setIfInBounds_toArray, List.set_cons_zero, List.set_cons_succ]
          refine wpAnyH_take (i := 6) (oi := _) (v := ?_) rfl (by kernel_rfl) (by kernel_rfl) (by kernel_rfl) (fun _ _ _ h => h) (Or.inl ⟨by rfl, ?_⟩) (by assumption) ?_
          rotate_left
          · intro w hSw; go_simp; with_reducible rfl
          simp only [Act.put, List.getElem_toArray, List.getElem_cons_zero, List.getElem_cons_succ, List.setIfInBounds_toArray, List.set_cons_zero, List.set_cons_succ]
          refine wpAnyH_done (by kernel_rfl) ?_ _
          have HE := hid h7
          have y0 := h7.cell 3 0 rfl rfl
          have y1 := h7.cell 3 1 rfl rfl
          clear h6 h7 hd hHeld z0 z1
          go_wp2_with fail
          exact bodyPost_ret (v := .tuple #[.agg #[.slice (some ⟨b2, 1, none⟩) (ws.length - 1) (c2 - 1), .slice AF F.length cF], .int .i64 q, .bool (goodB XS F)]) (by simp [results, Tryd.results9, go_sem, y0, y1]) rfl (l3P.end_ (HNO.out F AF cF hF1) HEND.out rfl HE.out.first3)
      · have iq : ¬ (q : Int) < (LS.length : Int) := by omega
        have hkk : k = LS.length - 1 := by have := HQ.out; omega
        have HEND := hid (runS_end (L := TL) (F := F) (xs := XS) (by rw [HTL.out, ← hkk]; exact HR.out.1))
        clear hkk
        go_wp2_with fail
        skip
        refine wp_region_held_drew (S := fun w' => w'.cell? ⟨w2.heap.size, 0, none⟩ = some (.slice (some ⟨b2, 1, none⟩) (ws.length - 1) (c2 - 1)) ∧ w'.cell? ⟨w2.heap.size, 1, none⟩ = some (.slice AF F.length cF)) (by kernel_rfl) (⟨HS.out.cell 1 0 rfl rfl, HS.out.cell 1 1 rfl rfl⟩) (fun hHeld => ?_)
        refine wpAnyH_take (i := 0) (oi := _) (v := ?_) rfl (by kernel_rfl) (by kernel_rfl) (by kernel_rfl) (fun _ _ _ h => h) (Or.inl ⟨by rfl, ?_⟩) (by assumption) ?_
        rotate_left
        · intro w hSw; go_simp; with_reducible rfl
        simp only [Act.put, List.getElem_toArray, List.getElem_cons_zero, List.setIfInBounds_toArray, List.set_cons_zero, List.set_cons_succ]
        refine wpAnyH_take (i := 1) (oi := _) (v := ?_) rfl (by kernel_rfl) (by kernel_rfl) (by kernel_rfl) (fun _ _ _ h => h) (Or.inl ⟨by rfl, ?_⟩) (by assumption) ?_
        rotate_left
        · intro w hSw; go_simp; with_reducible rfl
        simp only [Act.put, List.getElem_toArray, List.getElem_cons_zero, List.getElem_cons_succ, List.setIfInBounds_toArray, List.set_cons_zero, List.set_cons_succ]
        refine wpAnyH_take (i := 2) (oi := _) (v := ?_) rfl (by kernel_rfl) (by kernel_rfl) (by kernel_rfl) (fun _ _ _ h => h) (Or.inl ⟨by rfl, ?_⟩) (by assumption) ?_
        rotate_left
        · intro w hSw; go_simp; with_reducible rfl
        simp only [Act.put, List.getElem_toArray, List.getElem_cons_zero, List.getElem_cons_succ, List.setIfInBounds_toArray, List.set_cons_zero, List.set_cons_succ]
        refine wpAnyH_ready (rs := [3]) (by kernel_rfl) (by simp) ?_
        refine AllReadyH.cons rfl (fun K hK => ?_) AllReadyH.nil
        have hd := HS.out.step (Cls.drew _)
        go_simp
        refine (goodN _ (HN.out.grow (Cls.drew _))).mono ?_
        rintro e w6 ⟨rfl, hb⟩
        have h6 := hd.step hb
        have hn6 := (HN.out.grow (Cls.drew _)).grow hb
        go_wp2_with fail
        refine hK.out _ _ (⟨h6.cell 1 0 rfl rfl, h6.cell 1 1 rfl rfl⟩) (fun hHeld => ?_)
        clear hK K
        try simp only [Act.put, List.getElem_toArray, List.getElem_cons_zero, List.getElem_cons_succ, List.setIfInBounds_toArray, List.set_cons_zero, List.set_cons_succ]
        have y0 := h6.cell 3 0 rfl rfl
        have y1 := h6.cell 3 1 rfl rfl
        have z0 := h6.frozen 3 0 rfl
        have z1 := h6.frozen 3 1 rfl
        have h7 := (h6.set 3 rfl 0 (.slice (some ⟨b2, 1, none⟩) (ws.length - 1) (c2 - 1))).set 3 rfl 1 (.slice AF F.length cF)
        refine wpAnyH_ready (rs := [4]) (by kernel_rfl) (by simp) ?_
        refine AllReadyH.cons rfl (fun K hK => ?_) AllReadyH.nil
        go_simp
        go_wp2_with fail
        refine hK.out _ _ (⟨h7.cell 1 0 rfl rfl, h7.cell 1 1 rfl rfl⟩) (fun hHeld => ?_)
        clear hK K
        try simp only [Act.put, List.getElem_toArray, List.getElem_cons_zero, List.getElem_cons_succ, List.setIfInBounds_toArray, List.set_cons_zero, List.set_cons_succ]
        refine wpAnyH_take (i := 5) (oi := _) (v := ?_) rfl (by kernel_rfl) (by kernel_rfl) (by kernel_rfl) (fun _ _ _ h => h) (Or.inl ⟨by rfl, ?_⟩) (by assumption) ?_
        rotate_left
        · intro w hSw; go_simp; with_reducible rfl
        simp only [Act.put, List.getElem_toArray, List.getElem_cons_zero, List.getElem_cons_succ, List.setIfInBounds_toArray, List.set_cons_zero, List.set_cons_succ]
        refine wpAnyH_take (i := 6) (oi := _) (v := ?_) rfl (by kernel_rfl) (by kernel_rfl) (by kernel_rfl) (fun _ _ _ h => h) (Or.inl ⟨by rfl, ?_⟩) (by assumption) ?_
        rotate_left
        · intro w hSw; go_simp; with_reducible rfl
        simp only [Act.put, List.getElem_toArray, List.getElem_cons_zero, List.getElem_cons_succ, List.setIfInBounds_toArray, List.set_cons_zero, List.set_cons_succ]
        refine wpAnyH_done (by kernel_rfl) ?_ _
        have HE := hid h7
        have y0 := h7.cell 3 0 rfl rfl
        have y1 := h7.cell 3 1 rfl rfl
        clear h6 h7 hd hHeld z0 z1
        go_wp2_with fail
        exact bodyPost_ret (v := .tuple #[.agg #[.slice (some ⟨b2, 1, none⟩) (ws.length - 1) (c2 - 1), .slice AF F.length cF], .int .i64 q, .bool (goodB XS F)]) (by simp [results, Tryd.results9, go_sem, y0, y1]) rfl (l3P.end_ (HNO.out F AF cF hF1) HEND.out rfl HE.out.first3)
end Go.Proofs.YtmkgicfgcoeilaaDoor
