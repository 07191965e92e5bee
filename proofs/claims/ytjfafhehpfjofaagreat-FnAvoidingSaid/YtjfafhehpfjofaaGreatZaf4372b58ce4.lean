/- Lemmas and walks that the claim rests on, laid together. Conditions: none. -/
import Derived.Test.YtjfafhehpfjofaaGreatZb9c754731d4b
import Derived.Test.YtjfafhehpfjofaaGreatZ6bf9e9b909bb
import Derived.Test.YtjfafhehpfjofaaGreatZ9a562a3a5e02
import Derived.Lib.SlicesCompact
import Derived.Lib.RowBridge
import Derived.Test.YtjfafhehpfjofaaGreatZ7aaac240a832
import Derived.Test.YtjfafhehpfjofaaGreatZ366dab748d14
import Derived.Test.YtjfafhehpfjofaaGreatZ0a7cb1c9072e
import Derived.Deep.RegionLaw
import Derived.Test.YtjfafhehpfjofaaGreatZ864e83883b1b
import Derived.Test.YtjfafhehpfjofaaGreatZ45b848dcadbc
import Derived.Test.YtjfafhehpfjofaaGreatZ993f646c34a5
/- l4Own, l5First of the reference, walked. Conditions: as each states. By l5.py. -/
namespace Go.Proofs.YtjfafhehpfjofaaGreat
open Go.RowKit
set_option maxHeartbeats 2000000 in
set_option maxRecDepth 100000 in
theorem l4Own_any {s : Int} {B : Option Addr} {r : List Int} {e : Nat} (w : World) (hr : Sees elInt w w.heap.size B r.length r) (hn : r.length ≤ 1048576) :
    Calls Tryz.prog 48 #[.agg #[.int .i64 s, .slice B r.length e]] w fun e w' => ∃ R k, e = .returned (.agg #[.int .i64 s, .slice R r.length k]) ∧ Owns elInt w' w.heap.size 3 (.slice R r.length k) r ∧ Below w.heap.size w w' := by
  have hS := ((Led.nil w).blk_ w.heap.size rfl 32 #[.int .i64 s, .slice B r.length e]).blk_ (w.heap.size + 1) (by simp) 32 #[.int .i64 0, .slice none 0 0]
  have HS := hid hS
  have HR := hid hr
  clear hS hr
  go_enter Tryz.func48, Tryz.ntmps48
  go_wp2_with fail
  have C0 : ∀ w', Cls ((w.alloc (.cells #[.int .i64 s, .slice B r.length e] 32)).alloc (.cells #[.int .i64 0, .slice none 0 0] 32)) w' → w'.cell? ⟨w.heap.size, 0, none⟩ = some (.int .i64 s) := fun _ h => h.cell (HS.out.cell 1 0 rfl rfl)
  have C1 : ∀ w', Cls ((w.alloc (.cells #[.int .i64 s, .slice B r.length e] 32)).alloc (.cells #[.int .i64 0, .slice none 0 0] 32)) w' → w'.cell? ⟨w.heap.size, 1, none⟩ = some (.slice B r.length e) := fun _ h => h.cell (HS.out.cell 1 1 rfl rfl)
  have HL := hid (fun w' (h : Cls ((w.alloc (.cells #[.int .i64 s, .slice B r.length e] 32)).alloc (.cells #[.int .i64 0, .slice none 0 0] 32)) w') => HS.out.step h)
  have HB := HS.out.bl
  refine wp_region_heldX 6 (fun w' => Cls ((w.alloc (.cells #[.int .i64 s, .slice B r.length e] 32)).alloc (.cells #[.int .i64 0, .slice none 0 0] 32)) w') (by kernel_rfl) (Cls.drew _) (fun hHeld => ?_)
  refine wpAnyX_take (i := 0) (oi := _) (v := ?_) rfl (by kernel_rfl) (by kernel_rfl) (by kernel_rfl) (by kernel_rfl) (fun _ _ _ h => h) (Or.inl ⟨by rfl, ?_⟩) (by assumption) ?_
  rotate_left
  · intro w hSw; go_simp; with_reducible rfl
  simp only [Act.put, List.getElem_toArray, List.getElem_cons_zero, List.setIfInBounds_toArray, List.set_cons_zero, List.set_cons_succ]
  refine wpAnyX_take (i := 1) (oi := _) (v := ?_) rfl (by kernel_rfl) (by kernel_rfl) (by kernel_rfl) (by kernel_rfl) (fun _ _ _ h => h) (Or.inl ⟨by rfl, ?_⟩) (by assumption) ?_
  rotate_left
  · intro w hSw; go_simp; with_reducible rfl
  simp only [Act.put, List.getElem_toArray, List.getElem_cons_zero, List.getElem_cons_succ, List.setIfInBounds_toArray, List.set_cons_zero, List.set_cons_succ]
  refine wpAnyX_take (i := 2) (oi := _) (v := ?_) rfl (by kernel_rfl) (by kernel_rfl) (by kernel_rfl) (by kernel_rfl) (fun _ _ _ h => h) (Or.inl ⟨by rfl, ?_⟩) (by assumption) ?_
  rotate_left
  · intro w hSw; go_simp; with_reducible rfl
  simp only [Act.put, List.getElem_toArray, List.getElem_cons_zero, List.getElem_cons_succ, List.setIfInBounds_toArray, List.set_cons_zero, List.set_cons_succ]
  refine wpAnyX_take (i := 3) (oi := _) (v := ?_) rfl (by kernel_rfl) (by kernel_rfl) (by kernel_rfl) (by kernel_rfl) (fun _ _ _ h => h) (Or.inl ⟨by rfl, ?_⟩) (by assumption) ?_
  rotate_left
  · intro w hSw; go_simp; with_reducible rfl
  simp only [Act.put, List.getElem_toArray, List.getElem_cons_zero, List.getElem_cons_succ, List.setIfInBounds_toArray, List.set_cons_zero, List.set_cons_succ]
  refine wpAnyX_ready (rs := [4]) (by kernel_rfl) (by simp) ?_
  refine AllReadyX.cons rfl (fun K hK => ?_) AllReadyX.nil
  go_simp
  refine (l1Own_any _ (HR.out.grow (HL.out _ hHeld).bl) hn).mono ?_
  rintro e5 w5 ⟨v5, rfl, ho5, hb5⟩
  obtain ⟨A5, c5, hv, _, _, _⟩ := ho5.form
  subst hv
  have H5 := hid ((HL.out _ hHeld).owns hb5 ho5)
  have hcl5 := Cls.next hb5 hHeld
  go_wp2_with fail
  refine hK.out _ _ (hcl5) (fun hHeld => ?_)
  clear hK K
  try simp only [Act.put, List.getElem_toArray, List.getElem_cons_zero, List.getElem_cons_succ, List.setIfInBounds_toArray, List.set_cons_zero, List.set_cons_succ]
  refine wpAnyX_take (i := 5) (oi := _) (v := ?_) rfl (by kernel_rfl) (by kernel_rfl) (by kernel_rfl) (by kernel_rfl) (fun _ _ _ h => h) (Or.inl ⟨by rfl, ?_⟩) (by assumption) ?_
  rotate_left
  · intro w hSw; go_simp; with_reducible rfl
  simp only [Act.put, List.getElem_toArray, List.getElem_cons_zero, List.getElem_cons_succ, List.setIfInBounds_toArray, List.set_cons_zero, List.set_cons_succ]
  have y0 := H5.out.cell 1 0 rfl rfl
  have y1 := H5.out.cell 1 1 rfl rfl
  have z0 := H5.out.frozen 1 0 rfl
  have z1 := H5.out.frozen 1 1 rfl
  have H6 := hid ((H5.out.set 1 rfl 0 (.int .i64 s)).set 1 rfl 1 (.slice A5 r.length c5))
  refine wpAnyX_ready (rs := [6]) (by kernel_rfl) (by simp) ?_
  refine AllReadyX.last rfl (fun K hK => ?_)
  go_simp
  refine hK.out _ _ ?_
  clear hK K
  try simp only [Act.put, List.getElem_toArray, List.getElem_cons_zero, List.getElem_cons_succ, List.setIfInBounds_toArray, List.set_cons_zero, List.set_cons_succ]
  refine wpAnyX_done (by kernel_rfl) ?_ _
  clear C0 C1 HL hHeld
  have HO := hid ((H6.out.own 0 rfl).base (base' := w.heap.size) (by simp; omega))
  go_wp2_with fail
  exact bodyPost_ret (v := .agg #[.int .i64 s, .slice A5 r.length c5]) (by simp [results, Tryz.results48, go_sem, y0, y1]) rfl
    ⟨A5, c5, rfl, HO.out, H6.out.bl⟩
/-- What the search finds. -/
def l5O (wl : List Int) (few : Bool) (fs : List Fib) (n s to : Nat) : Option (List Int) := bbL (goneF wl) few fs (s : Int) (distL (goneF wl) fs n to) to n s [s] [] none
section
variable {n c m d gk cg : Nat} {A A' G : Option Addr} {xs : List ByteArray} {fs : List Fib} {wl : List Int}
set_option maxHeartbeats 4000000 in
set_option maxRecDepth 100000 in
theorem l5First_any (w : World) (h : NetIs w A n c A' m d xs fs) (hG : goodB xs fs = true) (s to : Nat) (hs : s < n) (ht : to < n) (hW : Sees elInt w w.heap.size G gk wl) (hgk : gk ≤ 1048576) (few : Bool) :
    Calls Tryz.prog 22 #[.agg #[.slice A n c, .slice A' m d], .int .i64 (s : Int), .int .i64 (to : Int), .slice G gk cg, .bool few] w fun e w' => ∃ R k, e = .returned (.tuple #[.agg #[.int .i64 (frS (l5O wl few fs n s to) (s : Int)), .slice R (frL (l5O wl few fs n s to)).length k], .bool (l5O wl few fs n s to).isSome]) ∧ Owns elInt w' w.heap.size 3 (.slice R (frL (l5O wl few fs n s to)).length k) (frL (l5O wl few fs n s to)) ∧ Below w.heap.size w w' := by
  obtain ⟨he, hn0, hn8, hm14⟩ := good_parts h hG
  have hl5 := goodB_lens5 hG
  have hS := ((Led.nil w).blk_ w.heap.size rfl 27 #[.slice A n c, .slice A' m d]).blk_ (w.heap.size + 1) (by simp) 32 #[.int .i64 0, .slice none 0 0]
  have HOK : Hid (okO fs n (l5O wl few fs n s to)) := bbL_ok he (lens5_pos hl5) ht (fun r hr => by cases hr) (by simp) (fun x hx => by cases hx)
  have HS := hid hS
  have HN := hid h
  have HW := hid hW
  have HE := hid he
  have HL5 := hid hl5
  have HDL : Hid ((distL (goneF wl) fs n to).length = n) := distL_len
  clear h hW hS he hl5
  go_enter Tryz.func22, Tryz.ntmps22
  go_wp2_with fail
  have C0 : ∀ w', Cls ((w.alloc (.cells #[.slice A n c, .slice A' m d] 27)).alloc (.cells #[.int .i64 0, .slice none 0 0] 32)) w' → w'.cell? ⟨w.heap.size, 0, none⟩ = some (.slice A n c) := fun _ h => h.cell (HS.out.cell 1 0 rfl rfl)
  have C1 : ∀ w', Cls ((w.alloc (.cells #[.slice A n c, .slice A' m d] 27)).alloc (.cells #[.int .i64 0, .slice none 0 0] 32)) w' → w'.cell? ⟨w.heap.size, 1, none⟩ = some (.slice A' m d) := fun _ h => h.cell (HS.out.cell 1 1 rfl rfl)
  have HL := hid (fun w' (h : Cls ((w.alloc (.cells #[.slice A n c, .slice A' m d] 27)).alloc (.cells #[.int .i64 0, .slice none 0 0] 32)) w') => HS.out.step h)
  have HLT : Hid (∀ w', Cls ((w.alloc (.cells #[.slice A n c, .slice A' m d] 27)).alloc (.cells #[.int .i64 0, .slice none 0 0] 32)) w' → w.heap.size + 1 < w'.heap.size) := fun w' h => by have h1 := Below.size h; simp at h1; omega
  go_region_held3 (fun w' => Cls ((w.alloc (.cells #[.slice A n c, .slice A' m d] 27)).alloc (.cells #[.int .i64 0, .slice none 0 0] 32)) w') (first | exact Cls.refl _ | exact Cls.drew _ | assumption | exact Cls.next (by assumption) (by assumption) | exact bl_alloc (by assumption) _)
    (first
      | (go_at_call 46; refine (l5Distances_any to _ (HN.out.grow (HL.out _ (by assumption)).bl) (HW.out.grow (HL.out _ (by assumption)).bl) hgk HE.out HL5.out ht hn8 hm14).mono ?_; rintro e w2 ⟨v2, rfl, ho2, hb2⟩; obtain ⟨Dl, cd, hv2, _, _, _⟩ := ho2.form; rw [HDL.out] at hv2; subst hv2; have hcl2 : Cls ((w.alloc (.cells #[.slice A n c, .slice A' m d] 27)).alloc (.cells #[.int .i64 0, .slice none 0 0] 32)) w2 := Cls.next hb2 (by assumption)))
  have hS2 := HL.out w2 hcl2
  have hsee := ho2.sees
  rw [HDL.out] at hsee
  have H0 := ((Led.nil w2).blk_ w2.heap.size rfl 77 (bxX A n c A' m d to G gk cg Dl cd few (s : Int) none (.slice none 0 0))).single elInt (s : Int) 3 (w2.heap.size + 1) (by simp) w2.heap.size (by omega)
  have H1 := hid (((H0.nilS elInt 3 w2.heap.size).nilS elInt 3 w2.heap.size).pick [0, 2, 1, 3] (by decide) rfl)
  have HEXT := hid (bext_any (cg := cg) (cd := cd) (gx := w2.heap.size) (HN.out.grow hS2.bl) hG (show s ≤ 1048576 by omega) few ht ((HW.out.grow hS2.bl).more hS2.bl.size) hgk hsee n s [s] [] none (.slice none 0 0) [] none 0 (some ⟨w2.heap.size + 1, 0, none⟩) 1 w2.heap.size _ (by simp) (fun u hu => by rw [List.mem_singleton.1 hu]; exact hs) (by simp; omega) rfl rfl (fun x hx => by cases hx) (fun r hr => by cases hr) H1.out)
  have hcells : (elInt.cells (s : Int)).toArray = #[.int .i64 (s : Int)] := rfl
  have hl0 : lenR fs [] = 0 := by rw [lenR_sum]; rfl
  have hf0 : frS none (s : Int) = 0 := rfl
  rw [hcells, hl0] at HEXT
  unfold bxX at HEXT
  rw [hf0] at HEXT
  simp only [Option.isSome_none] at HEXT
  have HS2 := hid hS2
  have HCL := hid hcl2
  have HL2 := HLT.out w2 hcl2
  obtain ⟨ov, hov⟩ : ∃ ov, l5O wl few fs n s to = ov := ⟨_, rfl⟩
  have HOV := hid hov
  clear hcells hl0 hf0 hS2 hsee H0 H1 ho2 hb2 hcl2 C0 C1 HL HLT hov
  go_wp2_with fail
  refine HEXT.out.mono ?_
  rintro e w4 ⟨rfl, RV, h4⟩
  rw [show bbL (goneF wl) few fs (s : Int) (distL (goneF wl) fs n to) to n s [s] [] none = ov from HOV.out] at h4
  obtain ⟨RA, rc, hRV, hrc⟩ := h4.form 0 rfl
  subst hRV
  have H4 := hid h4
  have HS4 := hid (HS2.out.step h4.bl)
  clear h4 HEXT
  rw [HOV.out] at HOK
  have x6 := H4.out.cell (l := [.slice A n c, .slice A' m d, .int .i64 (to : Int), .slice G gk cg, .slice Dl n cd, .bool few, .bool ov.isSome, .int .i64 (frS ov (s : Int)), .slice RA (frL ov).length rc]) 1 6 rfl rfl
  have x7 := H4.out.cell (l := [.slice A n c, .slice A' m d, .int .i64 (to : Int), .slice G gk cg, .slice Dl n cd, .bool few, .bool ov.isSome, .int .i64 (frS ov (s : Int)), .slice RA (frL ov).length rc]) 1 7 rfl rfl
  have x8 := H4.out.cell (l := [.slice A n c, .slice A' m d, .int .i64 (to : Int), .slice G gk cg, .slice Dl n cd, .bool few, .bool ov.isSome, .int .i64 (frS ov (s : Int)), .slice RA (frL ov).length rc]) 1 8 rfl rfl
  rcases (show ov = none ∨ ∃ r, ov = some r by cases ov; exact .inl rfl; exact .inr ⟨_, rfl⟩) with ho | ⟨r, ho⟩
  · have HH : Hid (frS ov (s : Int) = 0 ∧ frL ov = [] ∧ ov.isSome = false) := by rw [ho]; exact ⟨rfl, rfl, rfl⟩
    rw [HH.out.2.2] at x6
    have q0 := HS4.out.cell 0 0 rfl rfl
    have q1 := HS4.out.cell 0 1 rfl rfl
    have z0 := HS4.out.frozen 0 0 rfl
    have z1 := HS4.out.frozen 0 1 rfl
    have HS5 := hid ((HS4.out.set 0 rfl 0 (.int .i64 0)).set 0 rfl 1 (.slice none 0 0))
    clear ho x7 x8
    go_wp2_with fail
    exact bodyPost_ret (v := .tuple #[.agg #[.int .i64 0, .slice none 0 0], .bool false]) (by simp [results, Tryz.results22, go_sem, q0, q1]) rfl
      ⟨none, 0, by rw [HOV.out, HH.out.1, HH.out.2.1, HH.out.2.2]; rfl, by rw [HOV.out, HH.out.2.1]; exact World.ownsRow_nil _ _ _ _, HS5.out.bl⟩
  · have HH : Hid (frS ov (s : Int) = (s : Int) ∧ frL ov = r ∧ ov.isSome = true) := by rw [ho]; exact ⟨rfl, rfl, rfl⟩
    have hrok := HOK.out r ho
    have hsr := H4.out.sees 0 rfl rfl
    rw [HH.out.2.1] at hsr x8
    rw [HH.out.1] at x7
    rw [HH.out.2.2] at x6
    have HOWN := hid (l4Own_any (s := (s : Int)) (e := rc) w4 hsr (by omega))
    have HLT4 : Hid (w.heap.size + 1 < w4.heap.size) := by have h1 := H4.out.bl.size; refine hid ?_; omega
    clear ho hsr
    go_wp2_with fail
    refine HOWN.out.mono ?_
    rintro e w5 ⟨R, k, rfl, ho5, hb5⟩
    have hS5 := HS4.out.step hb5
    have q0 := hS5.cell 0 0 rfl rfl
    have q1 := hS5.cell 0 1 rfl rfl
    have z0 := hS5.frozen 0 0 rfl
    have z1 := hS5.frozen 0 1 rfl
    have HS6 := hid ((hS5.set 0 rfl 0 (.int .i64 (s : Int))).set 0 rfl 1 (.slice R r.length k))
    have HSZ := hid (((ho5.far (p := ⟨w.heap.size + 1, 0, none⟩) HLT4.out (.int .i64 (s : Int))).far (p := ⟨w.heap.size + 1, 1, none⟩) HLT4.out (.slice R r.length k)).base (base' := w.heap.size) (by have := HLT4.out; omega))
    clear hS5 HOWN hb5 ho5 x6 x7 x8
    go_wp2_with fail
    exact bodyPost_ret (v := .tuple #[.agg #[.int .i64 (s : Int), .slice R r.length k], .bool true]) (by simp [results, Tryz.results22, go_sem, q0, q1]) rfl
      ⟨R, k, by rw [HOV.out, HH.out.1, HH.out.2.1, HH.out.2.2], by rw [HOV.out, HH.out.2.1]; exact HSZ.out, HS6.out.bl⟩
end
end Go.Proofs.YtjfafhehpfjofaaGreat
/- ShortestRoute, FewestFibers of the reference, walked. Conditions: none. By shs.py. -/
namespace Go.Proofs.YtjfafhehpfjofaaGreat
open Go.RowKit
theorem l5O_av {wl : List Int} {fs : List Fib} {n s to : Nat} (he : endsB n fs) (hl : lensB fs) (hs : to < n) (hne : s ≠ to) : l5O wl false fs n s to = frO fs n s to (avQ (goneF wl)) := by
  unfold l5O frO rbL
  rw [bbL_eq he hl hs, rtsQ_filter _ _ _ _ rfl, best_first, if_neg hne]
theorem avQ_nil : avQ (goneF []) = fun _ => true := by
  funext r
  unfold avQ
  rw [List.all_eq_true]
  intro x _
  rw [goneF_nil]
  rfl
theorem l5O_short {fs : List Fib} {n s to : Nat} (he : endsB n fs) (hl : lensB fs) (hs : to < n) (hne : s ≠ to) : l5O [] false fs n s to = frO fs n s to (fun _ => true) := by
  rw [l5O_av he hl hs hne, avQ_nil]
theorem l5O_few {fs : List Fib} {n s to : Nat} (he : endsB n fs) (hl : lensB fs) (hs : to < n) (hne : s ≠ to) : l5O [] true fs n s to = mnO (srtR fs (s : Int) (rbL fs n s to)) := by
  unfold l5O rbL
  rw [bbL_eq he hl hs, rtsQ_filter _ _ _ _ rfl, avQ_nil, List.filter_eq_self.2 (fun _ _ => rfl), best_few, if_neg hne]
/-- FewestFibers' answer. -/
def feO (xs : List ByteArray) (fs : List Fib) (f t : Int) : Option (List Int) := if mcB xs fs f t then mnO (srtR fs f (rbL fs xs.length f.toNat t.toNat)) else none
section
variable {n c m d : Nat} {A A' : Option Addr} {xs : List ByteArray} {fs : List Fib}
end
end Go.Proofs.YtjfafhehpfjofaaGreat
/- slices.Sort and slices.Compact of numbers, by the library's contracts, in the words of the ledger. Conditions: at most 1048576 numbers. -/
namespace Go.Proofs.YtjfafhehpfjofaaGreat
open Go.RowKit
section
variable {w : World} {g : Nat} {e : TypeId} {cur : Array Value}
theorem blk_put (h : Blk w g e cur) (d : Array Int) : Blk (Go.Sort.putRow (Value.int .i64) w g 0 d) g e (Go.Sort.putCells (Value.int .i64) 0 d cur) := by
  unfold Blk at h ⊢
  simp [Go.Sort.putRow, Go.Sort.mapBlock, Array.getElem?_modify, h, Go.Sort.onCells]
theorem touch_put (w : World) (g : Nat) (d : Array Int) : Touch (fun b => b = g) w (Go.Sort.putRow (Value.int .i64) w g 0 d) :=
  ⟨rfl, rfl, rfl, by simp [Go.Sort.putRow, Go.Sort.mapBlock], fun k _ hn => by simp [Go.Sort.putRow, Go.Sort.mapBlock, Array.getElem?_modify, show ¬ g = k from fun e => hn e.symm]⟩
theorem below_grow (w : World) (os : Array Obj) : Below w.heap.size w (Go.Sort.grow w os) :=
  ⟨rfl, rfl, rfl, by simp [Go.Sort.grow], fun k hk => by simp [Go.Sort.grow, Array.getElem?_append_left hk]⟩
theorem below_ahead (w : World) (n : Nat) : Below w.heap.size w (Go.Sort.ahead w n) := ⟨rfl, rfl, rfl, Nat.le_refl _, fun _ _ => rfl⟩
theorem filled_put {xs : List Int} {cur : Array Value} (hs : xs.length ≤ cur.size) : Filled elInt (Go.Sort.putCells (Value.int .i64) 0 xs.toArray cur) xs xs.length := by
  intro j x hj hx i u hu
  have hu' : [Value.int .i64 x][i]? = some u := hu
  match i, hu' with
  | 0, hu' =>
    simp at hu'; subst hu'
    have e : j * elInt.sz + 0 = j := by show j * 1 + 0 = j; omega
    rw [e]
    have hjc : j < cur.size := by omega
    simp [Go.Sort.putCells, Array.getElem?_mapIdx, Array.getElem?_eq_getElem hjc, hj]
    have := List.getElem?_eq_some_iff.1 hx
    obtain ⟨h1, h2⟩ := this
    simp [h2]
  | i + 1, hu' => simp at hu'
end
section
variable {w0 w : World} {L : List Thing}
theorem Led.holds (h : Led w0 w L) (i : Nat) {base g c n : Nat} {xs : List Int} (hi : L[i]? = some (tOwns elInt base 3 (.slice (some ⟨g, 0, none⟩) n c) xs)) : Go.Sort.Holds (Value.int .i64) w g 0 xs.toArray := by
  intro j hj
  have hj' : j < xs.length := by simpa using hj
  refine ⟨?_, by rw [Nat.zero_add]; exact h.int_free i hi j⟩
  rw [Nat.zero_add, h.int_at i hi hj']
  unfold valL
  simp [hj']
/-- A row that is laid over in place. -/
theorem Led.relaid (h : Led w0 w L) (i : Nat) {base g c n : Nat} {xs ys : List Int} (hi : L[i]? = some (tOwns elInt base 3 (.slice (some ⟨g, 0, none⟩) n c) xs)) (hl : ys.length = xs.length) (q : Nat) (os : Array Obj) (k : Nat) (hk : k ≤ ys.length) :
    Led w0 (Go.Sort.grow (Go.Sort.putRow (Value.int .i64) (Go.Sort.ahead w q) g 0 ys.toArray) os) (L.set i (tOwns elInt base 3 (.slice (some ⟨g, 0, none⟩) k c) (ys.take k))) := by
  have h1 := h.step (below_ahead w q)
  have ho := h1.own i hi
  rcases Owns.cases ho with ⟨h0, _⟩ | ⟨g1, c1, cur, hv, hbase, hb, hnc, hcm, hs, hf⟩
  · cases h0
  · injection hv with e1 e2 e3
    injection e1 with e1
    injection e1 with e1
    subst e1
    subst e3
    have hs' : cur.size = c := by rw [hs]; show c * 1 = c; omega
    have hfl := filled_put (xs := ys) (cur := cur) (by omega)
    have hown : Owns elInt (Go.Sort.putRow (Value.int .i64) (Go.Sort.ahead w q) g 0 ys.toArray) base 3 (.slice (some ⟨g, 0, none⟩) k c) (ys.take k) := by
      refine Owns.of_blk (blk_put hb _) hbase (by simp; omega) (by omega) (by simp [Go.Sort.putCells, hs]) hcm (fun j x hj hx i u hu => hfl j x (by omega) ?_ i u hu)
      rw [List.getElem?_take, if_pos hj] at hx
      exact hx
    have h2 := h1.regrow i hi (t' := tOwns elInt base 3 (.slice (some ⟨g, 0, none⟩) k c) (ys.take k)) ((touch_put (Go.Sort.ahead w q) g ys.toArray).mono (fun b hb => by subst hb; rfl)) (fun b hb => .inl hb) hown
    exact h2.step (below_grow _ os)
theorem sort_led (h : Led w0 w L) (i : Nat) {base : Nat} {v : Value} {xs : List Int} (hi : L[i]? = some (tOwns elInt base 3 v xs)) (hn : xs.length ≤ 1048576) :
    Calls Tryz.prog 42 #[v] w fun e w' => e = .returned (.tuple #[]) ∧ Led w0 w' (L.set i (tOwns elInt base 3 v (xs.mergeSort fun x y => decide (x ≤ y)))) := by
  rcases Owns.cases (h.own i hi) with ⟨rfl, rfl⟩ | ⟨g, c, cur, rfl, _⟩
  · refine (Tryz.slices_Sort_int_none _ _ w).mono ?_
    rintro e w' ⟨rfl, rfl⟩
    refine ⟨rfl, ?_⟩
    have e : L.set i (tOwns elInt base 3 (.slice none 0 0) (([] : List Int).mergeSort fun x y => decide (x ≤ y))) = L := by
      rw [List.mergeSort_nil]
      apply List.ext_getElem?
      intro j
      rw [List.getElem?_set]
      split
      · rename_i e; subst e
        rw [hi]; simp [(List.getElem?_eq_some_iff.1 hi).1]
      · rfl
    rw [e]; exact h
  · refine (Tryz.slices_Sort_int g 0 c xs w (h.holds i hi) ?_ (by omega)).mono ?_
    · exact ((h.own i hi).lies g rfl).2
    · rintro e w' ⟨rfl, q, os, rfl⟩
      have hl : (xs.mergeSort fun x y => decide (x ≤ y)).length = xs.length := List.length_mergeSort _
      have h1 := h.relaid i hi hl q os xs.length (by omega)
      rw [List.take_of_length_le (by omega)] at h1
      exact ⟨rfl, h1⟩
theorem compact_led (h : Led w0 w L) (i : Nat) {base n c : Nat} {A : Option Addr} {xs : List Int} (hi : L[i]? = some (tOwns elInt base 3 (.slice A n c) xs)) (hn : xs.length ≤ 1048576) :
    Calls Tryz.prog 43 #[.slice A n c] w fun e w' => e = .returned (.slice A (Lib.compact xs).length c) ∧ Led w0 w' (L.set i (tOwns elInt base 3 (.slice A (Lib.compact xs).length c) (Lib.compact xs))) := by
  rcases Owns.cases (h.own i hi) with ⟨hv, rfl⟩ | ⟨g, c1, cur, hv, _, _, hnc, _⟩
  · injection hv with e1 e2 e3
    subst e1 e2 e3
    refine (Tryz.slices_Compact_int_empty none 0 w).mono ?_
    rintro e w' ⟨rfl, rfl⟩
    refine ⟨rfl, ?_⟩
    have e : L.set i (tOwns elInt base 3 (.slice none (Lib.compact ([] : List Int)).length 0) (Lib.compact ([] : List Int))) = L := by
      apply List.ext_getElem?
      intro j
      rw [List.getElem?_set]
      split
      · rename_i e; subst e
        rw [hi, show Lib.compact ([] : List Int) = [] from by decide]; simp [(List.getElem?_eq_some_iff.1 hi).1]
      · rfl
    rw [e]; exact h
  · injection hv with e1 e2 e3
    subst e1 e2 e3
    refine (Tryz.slices_Compact_int g 0 c xs w (h.holds i hi) (by omega) hnc).mono ?_
    rintro e w' ⟨rfl, q, rfl⟩
    have hle := Lib.compact_length_le xs
    have h1 := h.relaid i hi (ys := Lib.compact xs ++ List.replicate (xs.length - (Lib.compact xs).length) 0) (by simp; omega) q #[] (Lib.compact xs).length (by simp)
    rw [List.take_left, Go.Sort.grow_empty] at h1
    exact ⟨rfl, h1⟩
end
end Go.Proofs.YtjfafhehpfjofaaGreat
/- What two lists have in common: impl.common walked. Conditions: at most 1048576 numbers. -/
namespace Go.Proofs.YtjfafhehpfjofaaGreat
open Go.RowKit
/-- Those of the first k numbers of a that b has. -/
def comTo (a b : List Int) (k : Nat) : List Int := (a.take k).filter fun x => hasB b x
theorem comTo_zero (a b : List Int) : comTo a b 0 = [] := by simp [comTo]
theorem comTo_yes {a b : List Int} {k : Nat} {x : Int} (hx : a[k]? = some x) (h : hasB b x = true) : comTo a b (k + 1) = comTo a b k ++ [x] := by
  simp [comTo, List.take_add_one, hx, List.filter_append, h]
theorem comTo_no {a b : List Int} {k : Nat} {x : Int} (hx : a[k]? = some x) (h : hasB b x = false) : comTo a b (k + 1) = comTo a b k := by
  simp [comTo, List.take_add_one, hx, List.filter_append, h]
theorem comTo_len (a b : List Int) (k : Nat) : (comTo a b k).length ≤ k := by
  have h1 := List.length_filter_le (fun x => hasB b x) (a.take k)
  have h2 : (a.take k).length ≤ k := by simp; omega
  unfold comTo; omega
theorem comTo_all {a b : List Int} {n : Nat} (h : a.length = n) : Lib.compact ((comTo a b n).mergeSort fun x y => decide (x ≤ y)) = comL a b := by
  unfold comTo comL
  rw [List.take_of_length_le (by omega)]
section
variable {n m ca cb B C : Nat} {A D : Option Addr} {a b : List Int}
set_option maxHeartbeats 2000000 in
set_option maxRecDepth 100000 in
theorem common_any (w : World) (ha : Sees elInt w B A n a) (hb : Sees elInt w C D m b) (hn : n ≤ 1048576) (hm : m ≤ 1048576) :
    Calls Tryz.prog 19 #[.slice A n ca, .slice D m cb] w fun e w' => ∃ v, e = .returned v ∧ Owns elInt w' w.heap.size 3 v (comL a b) ∧ Below w.heap.size w w' := by
  have hS := (Led.nil w).empty elInt 3 w.heap.size rfl w.heap.size (Nat.le_refl _)
  rw [← comTo_zero a b] at hS
  have HS := hid hS
  have HA := hid ha
  have HB := hid hb
  have HL := hid ha.len
  obtain ⟨i0, hi, hz0, hz1, hz2⟩ := info_parts int_info
  clear hS ha hb
  go_enter Tryz.func19, Tryz.ntmps19
  go_wp2_with fail
  go_loopw [5, 11] (fun v i wr => ∃ k : Nat, k ≤ n ∧ i = .int .i64 k ∧ Hid (Led w wr [tOwns elInt w.heap.size 3 v (comTo a b k)])) (fun _ i _ => n - (intOf i).toNat)
  case atStart => exact ⟨0, Nat.zero_le _, rfl, HS⟩
  case round =>
    clear HS
    obtain ⟨k, hk, rfl, HS⟩ := hrel
    obtain ⟨A1, c1, rfl, _⟩ := HS.out.form 0 rfl
    by_cases hlt : k < n
    · obtain ⟨g, o, rfl, _, hx⟩ := HA.out.at_ hlt
      obtain ⟨x, hxk⟩ := get_of (k := k) HL.out hlt
      have f0 := bl_cell HS.out.bl (hx k x hxk 0 _ rfl)
      simp only [elInt, Nat.mul_one, Nat.add_zero] at f0
      have hll := comTo_len a b k
      have HX := hid hxk
      clear hx hxk
      go_wp2_with fail
      refine (containsI_any x _ (HB.out.grow HS.out.bl) (by unfold maxLen; omega)).mono ?_
      rintro e w5 ⟨rfl, rfl⟩
      cases gk : hasB b x
      · have HN := hid (comTo_no HX.out gk)
        clear HX f0
        go_wp2
        exact ⟨⟨k + 1, by omega, by go_num, by rw [HN.out]; exact HS⟩, by simp [intOf]; omega⟩
      · have HN := hid (comTo_yes HX.out gk)
        have HS2 := hid (HS.out.blk_ wr.heap.size rfl 3 #[.int .i64 x])
        clear HX f0 HS
        go_wp2_with (first
          | (at_builtin; refine wpList_append_led rfl _ _ 28 rfl HS2.out 1 rfl Tryz.underlying28 hi hz0 hz1 (by rw [hz2]; decide) rfl rfl rfl (show Sees elInt _ _ _ 1 [x] from sees_new elInt _ _ _ _ rfl) (by omega) HS2.out.bl.size ?_)
          | go_in)
        intro A2 c2 w7 hS5
        have hS6 := hid (hS5.drop 1)
        clear HS2 hS5
        go_wp2
        go_roundw
        case rel => exact ⟨k + 1, by omega, by go_num, by rw [HN.out]; exact hS6⟩
        case measure => simp [intOf]; omega
    · have hkn : n = k := by omega
      subst hkn
      have hll := comTo_len a b n
      have HE := hid (comTo_all (b := b) HL.out)
      clear hlt
      go_wp2_with fail
      refine (sort_led HS.out 0 rfl (by omega)).mono ?_
      rintro e w2 ⟨rfl, h2⟩
      have hl2 : ((comTo a b n).mergeSort fun x y => decide (x ≤ y)).length = (comTo a b n).length := List.length_mergeSort _
      have H2 := hid h2
      clear h2 HS
      go_wp2_with fail
      refine (compact_led H2.out 0 (by rw [← hl2]; rfl) (by omega)).mono ?_
      rintro e w3 ⟨rfl, h3⟩
      have H3 := hid h3
      clear h3 H2
      go_wp2
      go_ret
      exact ⟨_, rfl, by rw [← HE.out]; exact H3.out.own 0 rfl, H3.out.bl⟩
end
end Go.Proofs.YtjfafhehpfjofaaGreat
/- slices.MinFunc at routes by the number of fibers, FewestFibers of the program, walked. Conditions: none. By minf.py. -/
namespace Go.Proofs.YtjfafhehpfjofaaGreat
open Go.RowKit
set_option maxRecDepth 100000 in
theorem fewC {s t : Int} {A B : Option Addr} {k l e d : Nat} (w : World) : Calls Tryz.prog 30 #[.agg #[.int .i64 s, .slice A k e], .agg #[.int .i64 t, .slice B l d]] w fun e w' => e = .returned (.int .i64 (cmpB (k : Int) (l : Int))) ∧ Below w.heap.size w w' := by
  have hS := ((Led.nil w).blk_ w.heap.size rfl 32 #[.int .i64 s, .slice A k e]).blk_ (w.heap.size + 1) (by simp) 32 #[.int .i64 t, .slice B l d]
  have q0 := hS.cell 1 1 rfl rfl
  have q1 := hS.cell 0 1 rfl rfl
  have hb := hS.bl
  clear hS
  go_enter Tryz.func30, Tryz.ntmps30
  go_wp2_with fail
  refine (compare_any _ _ _).mono ?_
  rintro e w1 ⟨rfl, rfl⟩
  go_wp2_with fail
  go_ret
  exact ⟨rfl, hb⟩
theorem mnF_row (o : Option (List Int)) (l : List (List Int)) (r : List Int) : (l ++ [r]).foldl mnF o = mnF (l.foldl mnF o) r := by rw [List.foldl_append]; rfl
section
variable {n c : Nat} {A : Option Addr} {ss : List (Int × Sl)} {rows : List (Int × List Int)}
set_option maxHeartbeats 4000000 in
set_option maxRecDepth 100000 in
theorem minFuncRS_any (w : World) (hA : SeesRS w A n ss rows) (hn1 : 1 ≤ n) (hn : n ≤ 1099511627776) :
    Calls Tryz.prog 29 #[.slice A n c, .func (.func 30) #[] #[]] w fun e w' => ∃ (q : Nat) (s : Int × Sl) (r : Int × List Int), ss[q]? = some s ∧ rows[q]? = some r ∧ mnO (rows.map (·.2)) = some r.2 ∧ e = .returned (.agg #[.int .i64 s.1, .slice s.2.A s.2.n s.2.c]) ∧ Below w.heap.size w w' := by
  have hlr : rows.length = n := by rw [← hA.2.1]; exact hA.1.len
  have HLR := hid hlr
  have HSL : Hid (ss.length = n) := hA.1.len
  obtain ⟨gb, go, rfl, _, hc⟩ := hA.1.at_ (k := 0) hn1
  obtain ⟨x0, hx0⟩ := get_of (k := 0) HLR.out hn1
  obtain ⟨s0, hs0⟩ := get_of (k := 0) HSL.out hn1
  have HA := hid hA
  have HCC : Hid (∀ (k : Nat) s, ss[k]? = some s → w.cell? ⟨gb, go + k * 2, none⟩ = some (.int .i64 s.1) ∧ w.cell? ⟨gb, go + k * 2 + 1, none⟩ = some (.slice s.2.A s.2.n s.2.c)) := fun k s hk => by
    have h0 := hc k s hk 0 _ rfl
    have h1 := hc k s hk 1 _ rfl
    simp only [elRt, Nat.add_zero, slV] at h0 h1
    exact ⟨h0, h1⟩
  have hS := ((Led.nil w).blk_ w.heap.size rfl 32 #[.int .i64 0, .slice none 0 0]).blk_ (w.heap.size + 1) (by simp) 32 #[.int .i64 0, .slice none 0 0]
  have q0 := bl_cell ((Led.nil w).blk_ w.heap.size rfl 32 #[.int .i64 0, .slice none 0 0]).bl (HCC.out 0 s0 hs0).1
  have q1 := bl_cell ((Led.nil w).blk_ w.heap.size rfl 32 #[.int .i64 0, .slice none 0 0]).bl (HCC.out 0 s0 hs0).2
  have q2 := bl_cell hS.bl (HCC.out 0 s0 hs0).1
  have q3 := bl_cell hS.bl (HCC.out 0 s0 hs0).2
  simp only [Nat.zero_mul, Nat.add_zero] at q0 q1 q2 q3
  have y0 := hS.cell 0 0 rfl rfl
  have y1 := hS.cell 0 1 rfl rfl
  have z0 := hS.frozen 0 0 rfl
  have z1 := hS.frozen 0 1 rfl
  have H0 := hid (((Led.nil w).blk_ w.heap.size rfl 32 #[.int .i64 0, .slice none 0 0]).blk_ (w.heap.size + 1) (by simp) 32 #[.int .i64 s0.1, .slice s0.2.A s0.2.n s0.2.c])
  have HS0 := hid hs0
  have HX0 := hid hx0
  have HM0 : Hid (((rows.take 1).map (·.2)).foldl mnF none = some x0.2) := by
    have : rows.take 1 = [x0] := by
      rw [List.take_add_one, hx0]; rfl
    rw [this]; rfl
  clear hlr hA hc hS hx0 hs0
  go_enter Tryz.func29, Tryz.ntmps29
  go_wp2_with fail
  clear q0 q1 q2 q3 y0 y1 z0 z1
  go_loopw [6] (fun i wr => ∃ (j q : Nat) (s : Int × Sl) (r : Int × List Int), 1 ≤ j ∧ j ≤ n ∧ i = .int .i64 j ∧ Hid (ss[q]? = some s) ∧ Hid (rows[q]? = some r) ∧ Hid (((rows.take j).map (·.2)).foldl mnF none = some r.2) ∧ Hid (Led w wr [tBlk (w.heap.size + 1) 32 #[.int .i64 s.1, .slice s.2.A s.2.n s.2.c], tBlk w.heap.size 32 #[.int .i64 0, .slice none 0 0]])) (fun i _ => n - (intOf i).toNat)
  case atStart => exact ⟨1, 0, s0, x0, Nat.le_refl _, hn1, rfl, HS0, HX0, HM0, H0⟩
  case round =>
    clear HS0 HX0 HM0 H0
    obtain ⟨j, q, s, r, hj1, hj, rfl, HSQ, HRQ, HM, HS⟩ := hrel
    by_cases hlt : j < n
    · obtain ⟨x, hx⟩ := get_of (k := j) HLR.out hlt
      obtain ⟨t, ht⟩ := get_of (k := j) HSL.out hlt
      have hxl := (HA.out.2.2 j t x ht hx).2.1
      have hrl := (HA.out.2.2 q s r HSQ.out HRQ.out).2.1
      have C0 : ∀ w', Cls wr w' → w'.cell? ⟨gb, go + j * 2, none⟩ = some (.int .i64 t.1) := fun _ h => h.cell (bl_cell HS.out.bl (HCC.out j t ht).1)
      have C1 : ∀ w', Cls wr w' → w'.cell? ⟨gb, go + j * 2 + 1, none⟩ = some (.slice t.2.A t.2.n t.2.c) := fun _ h => h.cell (bl_cell HS.out.bl (HCC.out j t ht).2)
      have C2 : ∀ w', Cls wr w' → w'.cell? ⟨w.heap.size + 1, 0, none⟩ = some (.int .i64 s.1) := fun _ h => h.cell (HS.out.cell 0 0 rfl rfl)
      have C3 : ∀ w', Cls wr w' → w'.cell? ⟨w.heap.size + 1, 1, none⟩ = some (.slice s.2.A s.2.n s.2.c) := fun _ h => h.cell (HS.out.cell 0 1 rfl rfl)
      obtain ⟨z, hz⟩ : ∃ z, cmpB (t.2.n : Int) (s.2.n : Int) = z := ⟨_, rfl⟩
      have HC : Hid (∀ w', Cls wr w' → Calls Tryz.prog 30 #[.agg #[.int .i64 t.1, .slice t.2.A t.2.n t.2.c], .agg #[.int .i64 s.1, .slice s.2.A s.2.n s.2.c]] w' fun e w2 => e = .returned (.int .i64 z) ∧ Below w'.heap.size w' w2) := fun w' _ => by rw [← hz]; exact fewC w'
      have htake : rows.take (j + 1) = rows.take j ++ [x] := by rw [List.take_add_one, hx]; rfl
      have hM2 : ((rows.take (j + 1)).map (·.2)).foldl mnF none = mnF (some r.2) x.2 := by
        rw [htake, List.map_append, List.map_cons, List.map_nil, mnF_row, HM.out]
      have hzz : z < 0 ↔ t.2.n < s.2.n := by rw [← hz]; unfold cmpB; split <;> (try split) <;> omega
      have ij0 : (0 : Int) ≤ (j : Int) := by omega
      have ij1 : (j : Int) < (n : Int) := by omega
      have HTJ := hid ht
      have HXJ := hid hx
      by_cases hc : t.2.n < s.2.n
      · have hz0 : z < 0 := hzz.2 hc
        have HM2 : Hid (((rows.take (j + 1)).map (·.2)).foldl mnF none = some x.2) := by unfold Hid; rw [hM2]; unfold mnF; simp; omega
        clear hz hzz hc hM2 htake hxl hrl ht hx
        go_wp2_with fail
        refine region_cls (by kernel_rfl) (by kernel_rfl) ?_
        repeat (first
          | ((with_reducible refine quiet_pos ?_ (fun K hK => ?_))
             · rfl
             apply Exists.intro
             refine ⟨fun w' hw' => ?_, ?_⟩
             · go_simp
               first
                 | with_reducible rfl
                 | go_at_call 30; with_reducible exact hw'.call (HC.out _ hw')
             simp only [Act.put, List.setIfInBounds_toArray, List.set_cons_zero, List.set_cons_succ]
             refine hK _ ?_; clear hK K)
          | ((with_reducible refine quiet_neg ?_ (fun K hK => ?_))
             · rfl
             simp only [Act.put, List.setIfInBounds_toArray, List.set_cons_zero, List.set_cons_succ]
             refine hK _ ?_; clear hK K))
        with_reducible refine wpQuiet_nil ?_
        intro wz hwz'
        have hS2 := HS.out.step hwz'
        have c0 := C0 wz hwz'
        have c1 := C1 wz hwz'
        have y0 := hS2.cell 0 0 rfl rfl
        have y1 := hS2.cell 0 1 rfl rfl
        have z0 := hS2.frozen 0 0 rfl
        have z1 := hS2.frozen 0 1 rfl
        have HS3 := hid ((hS2.set 0 rfl 0 (.int .i64 t.1)).set 0 rfl 1 (.slice t.2.A t.2.n t.2.c))
        clear hS2 C0 C1 C2 C3 HC hwz' HS
        go_wp2
        refine ⟨?_, by first | (simp [intOf]; done) | (simp [intOf]; omega)⟩
        first
          | exact ⟨j + 1, j, t, x, by omega, by omega, by go_num, HTJ, HXJ, HM2, HS3⟩
          | ((repeat apply Exists.intro); exact ⟨⟨j + 1, j, t, x, by omega, by omega, by go_num, HTJ, HXJ, HM2, HS3⟩, rfl⟩)
      · have hz0 : ¬ z < 0 := fun h => hc (hzz.1 h)
        have HM2 : Hid (((rows.take (j + 1)).map (·.2)).foldl mnF none = some r.2) := by unfold Hid; rw [hM2]; unfold mnF; simp; omega
        clear hz hzz hc hM2 htake hxl hrl ht hx
        go_wp2_with fail
        refine region_cls (by kernel_rfl) (by kernel_rfl) ?_
        repeat (first
          | ((with_reducible refine quiet_pos ?_ (fun K hK => ?_))
             · rfl
             apply Exists.intro
             refine ⟨fun w' hw' => ?_, ?_⟩
             · go_simp
               first
                 | with_reducible rfl
                 | go_at_call 30; with_reducible exact hw'.call (HC.out _ hw')
             simp only [Act.put, List.setIfInBounds_toArray, List.set_cons_zero, List.set_cons_succ]
             refine hK _ ?_; clear hK K)
          | ((with_reducible refine quiet_neg ?_ (fun K hK => ?_))
             · rfl
             simp only [Act.put, List.setIfInBounds_toArray, List.set_cons_zero, List.set_cons_succ]
             refine hK _ ?_; clear hK K))
        with_reducible refine wpQuiet_nil ?_
        intro wz hwz'
        have HS3 := hid (HS.out.step hwz')
        clear C0 C1 C2 C3 HC hwz' HS
        go_wp2
        refine ⟨?_, by first | (simp [intOf]; done) | (simp [intOf]; omega)⟩
        first
          | exact ⟨j + 1, q, s, r, by omega, by omega, by go_num, HSQ, HRQ, HM2, HS3⟩
          | ((repeat apply Exists.intro); exact ⟨⟨j + 1, q, s, r, by omega, by omega, by go_num, HSQ, HRQ, HM2, HS3⟩, rfl⟩)
    · have hjn : j = n := by omega
      have HM2 : Hid (mnO (rows.map (·.2)) = some r.2) := by
        have h1 := HM.out
        rw [hjn, List.take_of_length_le (by rw [HLR.out]; omega)] at h1
        exact h1
      have c0 := HS.out.cell 0 0 rfl rfl
      have c1 := HS.out.cell 0 1 rfl rfl
      have y0 := HS.out.cell 1 0 rfl rfl
      have y1 := HS.out.cell 1 1 rfl rfl
      have z0 := HS.out.frozen 1 0 rfl
      have z1 := HS.out.frozen 1 1 rfl
      have HS3 := hid ((HS.out.set 1 rfl 0 (.int .i64 s.1)).set 1 rfl 1 (.slice s.2.A s.2.n s.2.c))
      subst hjn
      go_wp2_with fail
      exact bodyPost_ret (v := .agg #[.int .i64 s.1, .slice s.2.A s.2.n s.2.c]) (by simp [results, Tryz.results29, go_sem, y0, y1]) rfl
        ⟨q, s, r, HSQ.out, HRQ.out, HM2.out, rfl, HS3.out.bl⟩
end
section
variable {n c m d : Nat} {A A' : Option Addr} {xs : List ByteArray} {fs : List Fib}
theorem mnO_in {l : List (List Int)} {r : List Int} (h : mnO l = some r) : r ∈ l := by
  unfold mnO at h
  suffices hh : ∀ (l : List (List Int)) (o : Option (List Int)), l.foldl mnF o = some r → o = some r ∨ r ∈ l by
    rcases hh l none h with h1 | h1
    · cases h1
    · exact h1
  intro l
  induction l with
  | nil => intro o h; exact .inl h
  | cons x l ih =>
    intro o h
    rcases ih _ h with h1 | h1
    · unfold mnF at h1
      split at h1
      · injection h1 with h1; exact .inr (h1 ▸ List.mem_cons_self)
      · split at h1
        · injection h1 with h1; exact .inr (h1 ▸ List.mem_cons_self)
        · exact .inl h1
    · exact .inr (List.mem_cons_of_mem _ h1)
theorem feO_len {f t : Int} : (frL (feO xs fs f t)).length ≤ 8 := by
  unfold feO
  cases g : mcB xs fs f t
  · exact Nat.zero_le _
  · have h2 := goodB_bd (mcB_parts g).1
    rw [if_pos rfl]
    cases h : mnO (srtR fs f (rbL fs xs.length f.toNat t.toNat)) with
    | none => exact Nat.zero_le _
    | some r =>
      have h3 := (rbL_ok r ((srtR_ok _).2.mem_iff.1 (mnO_in h))).1
      show r.length ≤ 8
      omega
theorem feO_same {f t : Nat} (h : shB xs fs (f : Int) (t : Int) = true) : mnO (srtR fs (f : Int) (rbL fs xs.length f t)) = feO xs fs (f : Int) (t : Int) := by
  unfold feO
  cases g : mcB xs fs (f : Int) (t : Int)
  · have e : (f : Int) = (t : Int) := by
      unfold mcB at g
      unfold shB at h
      rw [h] at g
      simpa using g
    have e2 : f = t := by omega
    subst e2
    unfold rbL
    rw [if_pos rfl]
    rfl
  · rfl
set_option maxHeartbeats 4000000 in
set_option maxRecDepth 100000 in
theorem implFewestFibers (f t : Int) (w : World) (h : NetIs w A n c A' m d xs fs) :
    Calls Tryz.prog 11 #[.agg #[.slice A n c, .slice A' m d], .int .i64 f, .int .i64 t] w fun e w' => ∃ R k, e = .returned (.tuple #[.agg #[.int .i64 (frS (feO xs fs f t) f), .slice R (frL (feO xs fs f t)).length k], .bool (feO xs fs f t).isSome]) ∧ Owns elInt w' w.heap.size 3 (.slice R (frL (feO xs fs f t)).length k) (frL (feO xs fs f t)) ∧ Below w.heap.size w w' := by
  have hS := (((Led.nil w).blk_ w.heap.size rfl 27 #[.slice A n c, .slice A' m d]).blk_ (w.heap.size + 1) (by simp) 32 #[.int .i64 0, .slice none 0 0]).blk_ (w.heap.size + 1 + 1) (by simp) 3 #[.int .i64 f, .int .i64 t]
  have hs2 : Sees elInt (((w.alloc (.cells #[.slice A n c, .slice A' m d] 27)).alloc (.cells #[.int .i64 0, .slice none 0 0] 32)).alloc (.cells #[.int .i64 f, .int .i64 t] 3)) (w.heap.size + 1 + 1 + 1) (some ⟨w.heap.size + 1 + 1, 0, none⟩) 2 [f, t] := by
    refine ⟨rfl, .inr ⟨_, _, rfl, Nat.lt_succ_self _, fun k x hx j u hu => ?_⟩⟩
    have hj : j = 0 := by have := (List.getElem?_eq_some_iff.1 hu).1; simp [elInt] at this; omega
    subst hj
    have hu' : Value.int .i64 x = u := by simpa [elInt] using hu
    subst hu'
    rcases k with _ | _ | k
    · simp at hx; subst hx; exact hS.cell 0 0 rfl rfl
    · simp at hx; subst hx; exact hS.cell 0 1 rfl rfl
    · simp at hx
  have HB : Hid (shB xs fs f t = (goodB xs fs && nodesB n [f, t])) := by unfold Hid shB; rw [nodesB_two, h.xlen, Bool.and_assoc (goodB xs fs)]
  obtain ⟨o, ho⟩ : ∃ o, feO xs fs f t = o := ⟨_, rfl⟩
  rw [ho]
  cases g : (goodB xs fs && nodesB n [f, t])
  · have HH : Hid (frS o f = 0 ∧ frL o = [] ∧ o.isSome = false) := by
      have : mcB xs fs f t = false := by
        have h1 := HB.out
        rw [g] at h1
        unfold mcB
        unfold shB at h1
        rw [h1]; rfl
      have h2 : o = none := by rw [← ho]; unfold feO; rw [this]; rfl
      rw [h2]; exact ⟨rfl, rfl, rfl⟩
    clear ho
    go_enter Tryz.func11, Tryz.ntmps11
    go_wp2_with fail
    refine (calls_bool (isNode_any _ (h.grow hS.bl) hs2 (by decide)) g).mono ?_
    rintro e w1 ⟨rfl, hb⟩
    have hS3 := hS.step hb
    have q0 := hS3.cell 1 0 rfl rfl
    have q1 := hS3.cell 1 1 rfl rfl
    have z0 := hS3.frozen 1 0 rfl
    have z1 := hS3.frozen 1 1 rfl
    have HS4 := hid ((hS3.set 1 rfl 0 (.int .i64 0)).set 1 rfl 1 (.slice none 0 0))
    clear hS3 hS hb hs2
    go_wp2_with fail
    exact bodyPost_ret (v := .tuple #[.agg #[.int .i64 0, .slice none 0 0], .bool false]) (by simp [results, Tryz.results11, go_sem, q0, q1]) rfl
      ⟨none, 0, by rw [HH.out.1, HH.out.2.1, HH.out.2.2]; rfl, by rw [HH.out.2.1]; exact World.ownsRow_nil _ _ _ _, HS4.out.bl⟩
  · have hsb : shB xs fs f t = true := by rw [HB.out, g]
    have hp := hsb
    unfold shB at hp
    rw [Bool.and_eq_true, Bool.and_eq_true] at hp
    have hf := inB_idx hp.1.2
    have ht := inB_idx hp.2
    have hg := hp.1.1
    rw [h.xlen] at hf ht
    obtain ⟨f', rfl⟩ : ∃ f' : Nat, f = (f' : Int) := ⟨f.toNat, by omega⟩
    obtain ⟨t', rfl⟩ : ∃ t' : Nat, t = (t' : Int) := ⟨t.toNat, by omega⟩
    rw [← feO_same hsb, h.xlen] at ho
    have HO := hid ho
    have HN := hid h
    obtain ⟨_, hn0, hn8, hm14⟩ := good_parts h hg
    have HLF := hid h.flen
    clear hp ho h hsb
    go_enter Tryz.func11, Tryz.ntmps11
    go_wp2_with fail
    refine (calls_bool (isNode_any _ (HN.out.grow hS.bl) hs2 (by decide)) g).mono ?_
    rintro e w1 ⟨rfl, hb⟩
    have hS3 := hS.step hb
    have q0 := hS3.cell 2 0 rfl rfl
    have q1 := hS3.cell 2 1 rfl rfl
    have HLT : Hid (w.heap.size + 1 < w1.heap.size) := by have := hb.size; simp at this; refine hid ?_; omega
    have HS3 := hid hS3
    clear hS hb hs2 hS3
    go_wp2_with fail
    refine (routesBetween_any _ (HN.out.grow HS3.out.bl) hg f' t' (by omega) (by omega)).mono ?_
    rintro e w2 ⟨v, ss, rows, rfl, hp, hpw, ho, hb2⟩
    have hrows := srtR_rows (D := rbL fs n f' t') hpw hp
    obtain ⟨A2, c2, hv, _, _, _⟩ := ho.1.form
    subst hv
    have hlen : ss.length = (rbL fs n f' t').length := by rw [ho.2.1, hrows, List.length_map]; exact (srtR_ok _).2.length_eq
    have hlen2 := rbL_len (fs := fs) (n := n) (s := f') (to := t') hn8 (by rw [HLF.out]; exact hm14)
    have hsnd : rows.map (·.2) = srtR fs (f' : Int) (rbL fs n f' t') := by rw [hrows, List.map_map]; exact List.map_id _
    have HOW := hid ho
    have HSN := hid hsnd
    have HFST : Hid (∀ r ∈ rows, r.1 = (f' : Int)) := fun r hr => by
      rw [hrows] at hr
      obtain ⟨q, _, rfl⟩ := List.mem_map.1 hr
      rfl
    have HS4 := hid (HS3.out.step hb2)
    have HB2 := hid hb2
    have hrl : rows.length = ss.length := ho.2.1.symm
    clear hp hpw hrows ho hsnd hb2 q0 q1
    by_cases h0 : ss.length = 0
    · have HH : Hid (frS o (f' : Int) = 0 ∧ frL o = [] ∧ o.isSome = false) := by
        have h2 : o = none := by
          rw [← HO.out, ← HSN.out]
          have : rows = [] := List.eq_nil_of_length_eq_zero (by omega)
          rw [this]; rfl
        rw [h2]; exact ⟨rfl, rfl, rfl⟩
      have r0 := HS4.out.cell 1 0 rfl rfl
      have r1 := HS4.out.cell 1 1 rfl rfl
      have z0 := HS4.out.frozen 1 0 rfl
      have z1 := HS4.out.frozen 1 1 rfl
      have HS5 := hid ((HS4.out.set 1 rfl 0 (.int .i64 0)).set 1 rfl 1 (.slice none 0 0))
      rw [h0]
      clear hlen hrl h0
      go_wp2_with fail
      exact bodyPost_ret (v := .tuple #[.agg #[.int .i64 0, .slice none 0 0], .bool false]) (by simp [results, Tryz.results11, go_sem, r0, r1]) rfl
        ⟨none, 0, by rw [HH.out.1, HH.out.2.1, HH.out.2.2]; rfl, by rw [HH.out.2.1]; exact World.ownsRow_nil _ _ _ _, HS5.out.bl⟩
    · have hne : ((ss.length : Int) == 0) = false := by rw [beq_eq_false_iff_ne]; omega
      have HMF := hid (minFuncRS_any (c := c2) w2 HOW.out.sees (by omega) (by omega))
      clear hlen hrl h0
      go_wp2_with fail
      refine HMF.out.mono ?_
      rintro e w3 ⟨q, s1, r, hs1, hr1, hmn, rfl, hb3⟩
      have h1 := HFST.out r (List.mem_of_getElem? hr1)
      obtain ⟨e1, how⟩ := HOW.out.2.2.1 q s1 r hs1 hr1
      obtain ⟨B, e5, hv, h5, _, _⟩ := how.form
      obtain ⟨s2, tA, tn, tc⟩ := s1
      simp only at e1
      rw [h1] at e1
      subst e1
      unfold slV at hv how
      injection hv with v1 v2 v3
      simp only at v1 v2 v3 how
      subst v1
      subst v2
      subst v3
      have hoo : o = some r.2 := by rw [← HO.out, ← HSN.out]; exact hmn
      have HH : Hid (frS o (f' : Int) = (f' : Int) ∧ frL o = r.2 ∧ o.isSome = true) := by rw [hoo]; exact ⟨rfl, rfl, rfl⟩
      have hS5 := HS4.out.step hb3
      have r0 := hS5.cell 1 0 rfl rfl
      have r1 := hS5.cell 1 1 rfl rfl
      have z0 := hS5.frozen 1 0 rfl
      have z1 := hS5.frozen 1 1 rfl
      have HS6 := hid ((hS5.set 1 rfl 0 (.int .i64 (f' : Int))).set 1 rfl 1 (.slice tA r.2.length tc))
      have HSZ := hid ((((how.below hb3).far (p := ⟨w.heap.size + 1, 0, none⟩) HLT.out (.int .i64 (f' : Int))).far (p := ⟨w.heap.size + 1, 1, none⟩) HLT.out (.slice tA r.2.length tc)).base (base' := w.heap.size) (by have := HLT.out; omega))
      clear hS5 HMF hb3 how hmn hoo hr1 hs1
      go_wp2_with fail
      exact bodyPost_ret (v := .tuple #[.agg #[.int .i64 (f' : Int), .slice tA r.2.length tc], .bool true]) (by simp [results, Tryz.results11, go_sem, r0, r1]) rfl
        ⟨tA, tc, by rw [HH.out.1, HH.out.2.1, HH.out.2.2], by rw [HH.out.2.1]; exact HSZ.out, HS6.out.bl⟩
end
end Go.Proofs.YtjfafhehpfjofaaGreat
/- ShortestAvoiding of both sides, walked. Conditions: none. By avo.py. -/
namespace Go.Proofs.YtjfafhehpfjofaaGreat
open Go.RowKit
/-- Are network, nodes and fibers such that a route is asked for? -/
def avB (xs : List ByteArray) (fs : List Fib) (f t : Int) (l : List Int) : Bool := mcB xs fs f t && risB 0 ((fs.length : Int) - 1) l
def avO (xs : List ByteArray) (fs : List Fib) (f t : Int) (l : List Int) : Option (List Int) := if avB xs fs f t l then frO fs xs.length f.toNat t.toNat (avQ (goneF l)) else none
theorem avO_len {xs : List ByteArray} {fs : List Fib} {f t : Int} {l : List Int} : (frL (avO xs fs f t l)).length ≤ 8 := by
  unfold avO
  cases g : avB xs fs f t l
  · exact Nat.zero_le _
  · unfold avB at g
    rw [Bool.and_eq_true] at g
    have h1 := (frO_ok (fs := fs) (n := xs.length) (s := f.toNat) (to := t.toNat) (p := avQ (goneF l))).1
    have h2 := goodB_bd (mcB_parts g.1).1
    rw [if_pos rfl]; omega
/-- No common fiber. -/
theorem avQ_com {r l : List Int} (h : ∀ x ∈ r, 0 ≤ x) : avQ (goneF l) r = decide ((comL r l).length = 0) := by
  have hm := (comL_asc r l).2
  rw [Bool.eq_iff_iff, decide_eq_true_eq]
  unfold avQ goneF
  rw [List.all_eq_true]
  constructor
  · intro h1
    rcases hl : comL r l with _ | ⟨x, tl⟩
    · rfl
    · have hx := (hm x).1 (by rw [hl]; exact List.mem_cons_self)
      have h2 := h1 x hx.1
      have h3 := h x hx.1
      rw [Bool.not_eq_true', Bool.eq_false_iff] at h2
      exact absurd (hasB_iff.2 (by rw [show ((x.toNat : Nat) : Int) = x by omega]; exact hx.2)) h2
  · intro h1 x hx
    have h0 := h x hx
    rw [Bool.not_eq_true', Bool.eq_false_iff]
    intro h2
    have h3 := hasB_iff.1 h2
    rw [show ((x.toNat : Nat) : Int) = x by omega] at h3
    have h4 := (hm x).2 ⟨hx, h3⟩
    rw [List.eq_nil_of_length_eq_zero h1] at h4
    cases h4
theorem av_no {xs : List ByteArray} {fs : List Fib} {f t : Int} {l : List Int} (h : avB xs fs f t l = false) : avO xs fs f t l = none := by unfold avO; rw [h]; rfl
theorem nodes_mc {xs : List ByteArray} {fs : List Fib} {f t : Int} (h : (goodB xs fs && nodesB xs.length [f, t]) = false) : mcB xs fs f t = false := by
  rw [nodesB_two, ← Bool.and_assoc] at h
  unfold mcB
  rw [h]; rfl
section
variable {n c m d cg : Nat} {A A' G : Option Addr} {xs : List ByteArray} {fs : List Fib} {l : List Int}
set_option maxHeartbeats 2000000 in
set_option maxRecDepth 100000 in
theorem avoC {gV e BG : Nat} {B : Option Addr} {r : List Int} {s : Int} (w : World) (hV : Blk w gV 28 #[.slice G l.length cg]) (hG : Sees elInt w BG G l.length l) (hl : l.length ≤ 1048576) (hr : RtIs w B r.length e r) (h0 : ∀ x ∈ r, 0 ≤ x) :
    Calls Tryz.prog 18 #[.agg #[.int .i64 s, .slice B r.length e], .pointer (some ⟨gV, 0, none⟩)] w fun e w' => e = .returned (.bool (avQ (goneF l) r)) ∧ Below w.heap.size w w' := by
  have hS := (Led.nil w).blk_ w.heap.size rfl 32 #[.int .i64 s, .slice B r.length e]
  have hb0 := hS.bl
  have q1 := bl_cell hb0 (hV.cell 0)
  have q2 := hS.cell 0 0 rfl rfl
  have q3 := hS.cell 0 1 rfl rfl
  have hle := hr.le
  have HC := hid (avQ_com (l := l) h0)
  have HGR := hid (hr.2.grow hb0)
  have HGL := hid (hG.grow hb0)
  clear hV hG hr h0
  go_enter Tryz.func18, Tryz.ntmps18
  go_wp2_with fail
  refine (common_any _ HGR.out HGL.out (by omega) hl).mono ?_
  rintro e w1 ⟨v, rfl, ho, hb⟩
  obtain ⟨A2, c2, rfl, _, _, _⟩ := ho.form
  have HZ := hid (bl_then hb0 hb)
  have HE : Hid (avQ (goneF l) r = (((comL r l).length : Int) == 0)) := by
    unfold Hid
    rw [HC.out, Bool.eq_iff_iff]
    simp
  clear ho hb hb0 hS q1 q2 q3 HGR HGL HC hle hl
  go_wp2_with fail
  go_ret
  exact ⟨by rw [HE.out]; rfl, HZ.out⟩
set_option maxHeartbeats 4000000 in
set_option maxRecDepth 100000 in
theorem implShortestAvoiding (f t : Int) (w : World) (h : NetIs w A n c A' m d xs fs) (hG : Sees elInt w w.heap.size G l.length l) (hl : l.length ≤ 1048576) :
    Calls Tryz.prog 6 #[.agg #[.slice A n c, .slice A' m d], .int .i64 f, .int .i64 t, .slice G l.length cg] w fun e w' => ∃ R k, e = .returned (.tuple #[.agg #[.int .i64 (frS (avO xs fs f t l) f), .slice R (frL (avO xs fs f t l)).length k], .bool (avO xs fs f t l).isSome]) ∧ Owns elInt w' w.heap.size 3 (.slice R (frL (avO xs fs f t l)).length k) (frL (avO xs fs f t l)) ∧ Below w.heap.size w w' := by
  have hS := ((((Led.nil w).blk_ w.heap.size rfl 27 #[.slice A n c, .slice A' m d]).blk_ (w.heap.size + 1) (by simp) 28 #[.slice G l.length cg]).blk_ (w.heap.size + 1 + 1) (by simp) 32 #[.int .i64 0, .slice none 0 0]).blk_ (w.heap.size + 1 + 1 + 1) (by simp) 3 #[.int .i64 f, .int .i64 t]
  have hs2 : Sees elInt ((((w.alloc (.cells #[.slice A n c, .slice A' m d] 27)).alloc (.cells #[.slice G l.length cg] 28)).alloc (.cells #[.int .i64 0, .slice none 0 0] 32)).alloc (.cells #[.int .i64 f, .int .i64 t] 3)) (w.heap.size + 1 + 1 + 1 + 1) (some ⟨w.heap.size + 1 + 1 + 1, 0, none⟩) 2 [f, t] := by
    refine ⟨rfl, .inr ⟨_, _, rfl, Nat.lt_succ_self _, fun k x hx j u hu => ?_⟩⟩
    have hj : j = 0 := by have := (List.getElem?_eq_some_iff.1 hu).1; simp [elInt] at this; omega
    subst hj
    have hu' : Value.int .i64 x = u := by simpa [elInt] using hu
    subst hu'
    rcases k with _ | _ | k
    · simp at hx; subst hx; exact hS.cell 0 0 rfl rfl
    · simp at hx; subst hx; exact hS.cell 0 1 rfl rfl
    · simp at hx
  obtain ⟨o, ho⟩ : ∃ o, avO xs fs f t l = o := ⟨_, rfl⟩
  rw [ho]
  have HN := hid h
  have HGL := hid hG
  cases g : (goodB xs fs && nodesB n [f, t])
  · have HH : Hid (frS o f = 0 ∧ frL o = [] ∧ o.isSome = false) := by
      have h1 : avB xs fs f t l = false := by unfold avB; rw [nodes_mc (by rw [h.xlen]; exact g)]; rfl
      rw [← ho, av_no h1]; exact ⟨rfl, rfl, rfl⟩
    clear ho h hG
    go_enter Tryz.func6, Tryz.ntmps6
    go_wp2_with fail
    refine (calls_bool (isNode_any _ (HN.out.grow hS.bl) hs2 (by decide)) g).mono ?_
    rintro e w1 ⟨rfl, hb⟩
    have hS3 := hS.step hb
    have r0 := hS3.cell 1 0 rfl rfl
    have r1 := hS3.cell 1 1 rfl rfl
    have z0 := hS3.frozen 1 0 rfl
    have z1 := hS3.frozen 1 1 rfl
    have HS4 := hid ((hS3.set 1 rfl 0 (.int .i64 0)).set 1 rfl 1 (.slice none 0 0))
    clear hS3 hS hb hs2
    go_wp2_with fail
    exact bodyPost_ret (v := .tuple #[.agg #[.int .i64 0, .slice none 0 0], .bool false]) (by simp [results, Tryz.results6, go_sem, r0, r1]) rfl
      ⟨none, 0, by rw [HH.out.1, HH.out.2.1, HH.out.2.2]; rfl, by rw [HH.out.2.1]; exact World.ownsRow_nil _ _ _ _, HS4.out.bl⟩
  · have hm14 := h.mle
    cases g2 : risB 0 ((m : Int) - 1) l
    · have HH : Hid (frS o f = 0 ∧ frL o = [] ∧ o.isSome = false) := by
        have h1 : avB xs fs f t l = false := by unfold avB; rw [h.flen, g2, Bool.and_false]
        rw [← ho, av_no h1]; exact ⟨rfl, rfl, rfl⟩
      clear ho h hG
      go_enter Tryz.func6, Tryz.ntmps6
      go_wp2_with fail
      refine (calls_bool (isNode_any _ (HN.out.grow hS.bl) hs2 (by decide)) g).mono ?_
      rintro e w1 ⟨rfl, hb⟩
      have hS3 := hS.step hb
      have q0 := hS3.cell 3 1 rfl rfl
      have q2 := hS3.cell 2 0 rfl rfl
      have r0 := hS3.cell 1 0 rfl rfl
      have r1 := hS3.cell 1 1 rfl rfl
      have z0 := hS3.frozen 1 0 rfl
      have z1 := hS3.frozen 1 1 rfl
      have HS4 := hid ((hS3.set 1 rfl 0 (.int .i64 0)).set 1 rfl 1 (.slice none 0 0))
      have HIS := isSet_any (c := cg) m w1 (HGL.out.grow hS3.bl) hl hm14
      rw [g2] at HIS
      replace HIS := hid HIS
      clear hS3 hS hb hs2 hl hm14
      go_wp2_with fail
      refine HIS.out.mono ?_
      rintro e w2 ⟨rfl, rfl⟩
      clear HIS
      go_wp2_with fail
      exact bodyPost_ret (v := .tuple #[.agg #[.int .i64 0, .slice none 0 0], .bool false]) (by simp [results, Tryz.results6, go_sem, r0, r1]) rfl
        ⟨none, 0, by rw [HH.out.1, HH.out.2.1, HH.out.2.2]; rfl, by rw [HH.out.2.1]; exact World.ownsRow_nil _ _ _ _, HS4.out.bl⟩
    · have hp := g
      rw [nodesB_two, Bool.and_eq_true, Bool.and_eq_true] at hp
      have hf := inB_idx hp.2.1
      have ht := inB_idx hp.2.2
      have hg := hp.1
      obtain ⟨f', rfl⟩ : ∃ f' : Nat, f = (f' : Int) := ⟨f.toNat, by omega⟩
      obtain ⟨t', rfl⟩ : ∃ t' : Nat, t = (t' : Int) := ⟨t.toNat, by omega⟩
      have HO : Hid (frO fs n f' t' (avQ (goneF l)) = o) := by
        unfold Hid
        rw [← ho]
        by_cases hne : f' = t'
        · subst hne
          have e1 : frO fs n f' f' (avQ (goneF l)) = none := by
            unfold frO rbL
            rw [if_pos rfl]; rfl
          have e2 : avB xs fs (f' : Int) (f' : Int) l = false := by unfold avB mcB; simp
          rw [e1, av_no e2]
        · have e2 : avB xs fs (f' : Int) (t' : Int) l = true := by
            unfold avB mcB
            rw [h.flen, g2, h.xlen, hp.1, hp.2.1, hp.2.2]
            simp; omega
          unfold avO
          rw [e2, h.xlen]; rfl
      clear ho h hG hp
      go_enter Tryz.func6, Tryz.ntmps6
      go_wp2_with fail
      refine (calls_bool (isNode_any _ (HN.out.grow hS.bl) hs2 (by decide)) g).mono ?_
      rintro e w1 ⟨rfl, hb⟩
      have hS3 := hS.step hb
      have q0 := hS3.cell 3 0 rfl rfl
      have q1 := hS3.cell 3 1 rfl rfl
      have q2 := hS3.cell 2 0 rfl rfl
      have HIS := isSet_any (c := cg) m w1 (HGL.out.grow hS3.bl) hl hm14
      rw [g2] at HIS
      replace HIS := hid HIS
      have HLT3 : Hid (w.heap.size + 1 + 1 < w1.heap.size) := by have := hb.size; simp at this; refine hid ?_; omega
      have hBV : Blk w1 (w.heap.size + 1) 28 #[.slice G l.length cg] := hS3.get 2 rfl
      have HF := hid (firstRoute_any (F := 18) (cap := #[.pointer (some ⟨w.heap.size + 1, 0, none⟩)]) (avQ (goneF l)) w1 (HN.out.grow hS3.bl) hg f' t' (by omega) (by omega) (fun _ _ => by rfl) (fun w' B r e hcl hrn hri hrm hre hsee => avoC w' (hBV.below hcl hBV.lt) ((HGL.out.grow hS3.bl).grow hcl) hl ⟨⟨hre, by have := (good_parts HN.out hg).2.2.1; omega⟩, hsee⟩ (fun x hx => (hri x hx).1)))
      rw [HO.out] at HF
      have HS3 := hid hS3
      clear hS3 hS hb hs2 hl hm14 hBV
      go_wp2_with fail
      refine HIS.out.mono ?_
      rintro e w2 ⟨rfl, rfl⟩
      clear HIS
      go_wp2_with fail
      refine HF.out.mono ?_
      rintro e w4 ⟨R, k, rfl, ho2, hb2⟩
      have hS4 := HS3.out.step hb2
      have r0 := hS4.cell 1 0 rfl rfl
      have r1 := hS4.cell 1 1 rfl rfl
      have z0 := hS4.frozen 1 0 rfl
      have z1 := hS4.frozen 1 1 rfl
      have HS5 := hid ((hS4.set 1 rfl 0 (.int .i64 (frS o (f' : Int)))).set 1 rfl 1 (.slice R (frL o).length k))
      have HSZ := hid (((ho2.far (p := ⟨w.heap.size + 1 + 1, 0, none⟩) HLT3.out (.int .i64 (frS o (f' : Int)))).far (p := ⟨w.heap.size + 1 + 1, 1, none⟩) HLT3.out (.slice R (frL o).length k)).base (base' := w.heap.size) (by have := HLT3.out; omega))
      clear hS4 HF q0 q1 q2 hb2 ho2
      go_wp2_with fail
      exact bodyPost_ret (v := .tuple #[.agg #[.int .i64 (frS o (f' : Int)), .slice R (frL o).length k], .bool o.isSome]) (by simp [results, Tryz.results6, go_sem, r0, r1]) rfl
        ⟨R, k, rfl, HSZ.out, HS5.out.bl⟩
set_option maxHeartbeats 4000000 in
set_option maxRecDepth 100000 in
theorem specShortestAvoiding (f t : Int) (w : World) (h : NetIs w A n c A' m d xs fs) (hG : Sees elInt w w.heap.size G l.length l) (hl : l.length ≤ 1048576) :
    Calls Tryz.prog 7 #[.agg #[.slice A n c, .slice A' m d], .int .i64 f, .int .i64 t, .slice G l.length cg] w fun e w' => ∃ R k, e = .returned (.tuple #[.agg #[.int .i64 (frS (avO xs fs f t l) f), .slice R (frL (avO xs fs f t l)).length k], .bool (avO xs fs f t l).isSome]) ∧ Owns elInt w' w.heap.size 3 (.slice R (frL (avO xs fs f t l)).length k) (frL (avO xs fs f t l)) ∧ Below w.heap.size w w' := by
  have hS := ((Led.nil w).blk_ w.heap.size rfl 27 #[.slice A n c, .slice A' m d]).blk_ (w.heap.size + 1) (by simp) 32 #[.int .i64 0, .slice none 0 0]
  obtain ⟨o, ho⟩ : ∃ o, avO xs fs f t l = o := ⟨_, rfl⟩
  rw [ho]
  have HN := hid h
  have HGL := hid hG
  have hm := h.mle
  cases g : mcB xs fs f t
  · have HH : Hid (frS o f = 0 ∧ frL o = [] ∧ o.isSome = false) := by
      have h1 : avB xs fs f t l = false := by unfold avB; rw [g]; rfl
      rw [← ho, av_no h1]; exact ⟨rfl, rfl, rfl⟩
    clear ho h hG
    go_enter Tryz.func7, Tryz.ntmps7
    go_wp2_with fail
    refine (l4Pair_any f t _ (HN.out.grow hS.bl)).mono ?_
    rintro e w1 ⟨rfl, hb⟩
    rw [g]
    have hS3 := hS.step hb
    have r0 := hS3.cell 0 0 rfl rfl
    have r1 := hS3.cell 0 1 rfl rfl
    have z0 := hS3.frozen 0 0 rfl
    have z1 := hS3.frozen 0 1 rfl
    have HS4 := hid ((hS3.set 0 rfl 0 (.int .i64 0)).set 0 rfl 1 (.slice none 0 0))
    clear hS3 hS hb
    go_wp2_with fail
    exact bodyPost_ret (v := .tuple #[.agg #[.int .i64 0, .slice none 0 0], .bool false]) (by simp [results, Tryz.results7, go_sem, r0, r1]) rfl
      ⟨none, 0, by rw [HH.out.1, HH.out.2.1, HH.out.2.2]; rfl, by rw [HH.out.2.1]; exact World.ownsRow_nil _ _ _ _, HS4.out.bl⟩
  · obtain ⟨hg, hf, ht, hne⟩ := mcB_parts g
    rw [h.xlen] at hf ht
    obtain ⟨f', rfl⟩ : ∃ f' : Nat, f = (f' : Int) := ⟨f.toNat, by omega⟩
    obtain ⟨t', rfl⟩ : ∃ t' : Nat, t = (t' : Int) := ⟨t.toNat, by omega⟩
    have iw : IntKind.i64.wrap ((m : Int) - 1) = (m : Int) - 1 := IntWalk.i64_in _ (by omega)
    cases g2 : risB 0 ((m : Int) - 1) l
    · have HH : Hid (frS o (f' : Int) = 0 ∧ frL o = [] ∧ o.isSome = false) := by
        have h1 : avB xs fs (f' : Int) (t' : Int) l = false := by unfold avB; rw [h.flen, g2, Bool.and_false]
        rw [← ho, av_no h1]; exact ⟨rfl, rfl, rfl⟩
      clear ho h hG
      have HG := hid g
      go_enter Tryz.func7, Tryz.ntmps7
      go_wp2_with fail
      refine (l4Pair_any _ _ _ (HN.out.grow hS.bl)).mono ?_
      rintro e w1 ⟨rfl, hb⟩
      rw [HG.out]
      replace hS := hS.step hb
      have p1 := hS.cell 1 1 rfl rfl
      clear hb
      go_wp2_with fail
      refine (l1Rising_any 0 ((m : Int) - 1) _ (HGL.out.grow hS.bl) hl).mono ?_
      rintro e w3 ⟨rfl, hb⟩
      rw [g2]
      have hS3 := hS.step hb
      have r0 := hS3.cell 0 0 rfl rfl
      have r1 := hS3.cell 0 1 rfl rfl
      have z0 := hS3.frozen 0 0 rfl
      have z1 := hS3.frozen 0 1 rfl
      have HS4 := hid ((hS3.set 0 rfl 0 (.int .i64 0)).set 0 rfl 1 (.slice none 0 0))
      clear hS3 hS hb p1
      go_wp2_with fail
      exact bodyPost_ret (v := .tuple #[.agg #[.int .i64 0, .slice none 0 0], .bool false]) (by simp [results, Tryz.results7, go_sem, r0, r1]) rfl
        ⟨none, 0, by rw [HH.out.1, HH.out.2.1, HH.out.2.2]; rfl, by rw [HH.out.2.1]; exact World.ownsRow_nil _ _ _ _, HS4.out.bl⟩
    · have he := (good_parts h hg).1
      have HO : Hid (l5O l false fs n f' t' = o) := by
        unfold Hid
        rw [← ho, l5O_av he (lens5_pos (goodB_lens5 hg)) (by omega) (by omega)]
        have e2 : avB xs fs (f' : Int) (t' : Int) l = true := by unfold avB; rw [g, h.flen, g2]; rfl
        unfold avO
        rw [e2, h.xlen]; rfl
      clear ho h hG he
      have HG := hid g
      go_enter Tryz.func7, Tryz.ntmps7
      go_wp2_with fail
      refine (l4Pair_any _ _ _ (HN.out.grow hS.bl)).mono ?_
      rintro e w1 ⟨rfl, hb⟩
      rw [HG.out]
      have HLT : Hid (w.heap.size + 1 < w1.heap.size) := by have := hb.size; simp at this; refine hid ?_; omega
      replace hS := hS.step hb
      have p1 := hS.cell 1 1 rfl rfl
      clear hb
      go_wp2_with fail
      refine (l1Rising_any 0 ((m : Int) - 1) _ (HGL.out.grow hS.bl) hl).mono ?_
      rintro e w3 ⟨rfl, hb⟩
      rw [g2]
      have hS3 := hS.step hb
      have p0 := hS3.cell 1 0 rfl rfl
      have p2 := hS3.cell 1 1 rfl rfl
      have HLT3 : Hid (w.heap.size + 1 < w3.heap.size) := by have h1 := hb.size; have h2 := HLT.out; refine hid ?_; omega
      have HF := hid (l5First_any (cg := cg) (wl := l) (gk := l.length) _ (HN.out.grow hS3.bl) hg f' t' (by omega) (by omega) ((HGL.out.grow hS3.bl).more hS3.bl.size) hl false)
      rw [HO.out] at HF
      have HS3 := hid hS3
      clear hS hb hS3 p1
      go_wp2_with fail
      refine HF.out.mono ?_
      rintro e w2 ⟨R, k, rfl, ho2, hb2⟩
      have hS4 := HS3.out.step hb2
      have r0 := hS4.cell 0 0 rfl rfl
      have r1 := hS4.cell 0 1 rfl rfl
      have z0 := hS4.frozen 0 0 rfl
      have z1 := hS4.frozen 0 1 rfl
      have HS5 := hid ((hS4.set 0 rfl 0 (.int .i64 (frS o (f' : Int)))).set 0 rfl 1 (.slice R (frL o).length k))
      have HSZ := hid (((ho2.far (p := ⟨w.heap.size + 1, 0, none⟩) HLT3.out (.int .i64 (frS o (f' : Int)))).far (p := ⟨w.heap.size + 1, 1, none⟩) HLT3.out (.slice R (frL o).length k)).base (base' := w.heap.size) (by have := HLT3.out; omega))
      clear hS4 HF hb2 ho2 p0 p2
      go_wp2_with fail
      exact bodyPost_ret (v := .tuple #[.agg #[.int .i64 (frS o (f' : Int)), .slice R (frL o).length k], .bool o.isSome]) (by simp [results, Tryz.results7, go_sem, r0, r1]) rfl
        ⟨R, k, rfl, HSZ.out, HS5.out.bl⟩
end
end Go.Proofs.YtjfafhehpfjofaaGreat
/- Distances, Diameter of both sides, walked. Conditions: none. -/
namespace Go.Proofs.YtjfafhehpfjofaaGreat
open Go.RowKit
theorem results_tmp4 {fn : Func} {t u v x : Tmp} (h : fn.results = #[.tmp t, .tmp u, .tmp v, .tmp x]) (tmps : Array Value) (P : Program) (w : World) :
    (results fn tmps).run P w = .ok (.tuple #[tmps.getD t undef, tmps.getD u undef, tmps.getD v undef, tmps.getD x undef]) w := by
  simp [results, h]
section
variable {n c m d : Nat} {A A' : Option Addr} {xs : List ByteArray} {fs : List Fib}
def diL (xs : List ByteArray) (fs : List Fib) (v : Int) : List Int := if faB xs fs v then dsF fs xs.length v.toNat else []
theorem diL_len {v : Int} : (diL xs fs v).length ≤ 8 := by
  unfold diL
  cases g : faB xs fs v
  · simp
  · unfold faB at g
    rw [Bool.and_eq_true] at g
    have := (goodB_bd g.1).2.1
    unfold dsF
    simp [distL_len]; omega
end
end Go.Proofs.YtjfafhehpfjofaaGreat
