/- Lemmas and walks that the claim rests on, laid together. Conditions: none. -/
import Derived.Test.YtfepilpllfiegaaZc551f092537e
import Derived.Test.YtfepilpllfiegaaZ02c91a162493
import Derived.Test.YtfepilpllfiegaaZca6a11a8a0df
import Derived.Test.YtfepilpllfiegaaZcd4e02bf0900
import Derived.Deep.RegionHeld3
/- l4Search.extend of the reference, walked. Conditions: none. By sext.py. -/
namespace Go.Proofs.Ytfepilpllfiegaa
open Go.RowKit
/-- The reference's search, at most 200 and one. -/
def rfL (fs : List Fib) (s to k v : Nat) (seen : List Nat) (ids : List Int) (l : List (List Int)) : List (List Int) := refL fs.length to 200 (nxF fs) (insR fs (s : Int)) k v seen ids l
def rfF (fs : List Fib) (s to k v : Nat) (seen : List Nat) (ids : List Int) (l : List (List Int)) (i : Nat) : List (List Int) := if l.length ≤ 200 then (match nxF fs i v with
  | some u => if u ∈ seen then l else rfL fs s to k u (u :: seen) (ids ++ [(i : Int)]) l
  | none => l) else l
def rfJ (fs : List Fib) (s to k v : Nat) (seen : List Nat) (ids : List Int) (l : List (List Int)) (j : Nat) : List (List Int) := (List.range j).foldl (rfF fs s to k v seen ids) l
def okL (fs : List Fib) (n : Nat) (l : List (List Int)) : Prop := l.length ≤ 201 ∧ ∀ r ∈ l, r.length ≤ n ∧ ∀ x ∈ r, 0 ≤ x ∧ x < fs.length
def seenI (seen : List Nat) : List Int := seen.reverse.map fun u : Nat => (u : Int)
theorem seenI_len (seen : List Nat) : (seenI seen).length = seen.length := by unfold seenI; rw [List.length_map, List.length_reverse]
theorem seenI_cons (q : Nat) (seen : List Nat) : seenI (q :: seen) = seenI seen ++ [(q : Int)] := by unfold seenI; simp
theorem seenI_mem {q : Nat} {seen : List Nat} : (q : Int) ∈ seenI seen ↔ q ∈ seen := by
  unfold seenI
  rw [List.mem_map]
  constructor
  · rintro ⟨u, hu, e⟩
    have : u = q := by omega
    subst this
    exact List.mem_reverse.1 hu
  · exact fun h => ⟨q, List.mem_reverse.2 h, rfl⟩
theorem sees_in {w : World} {g : Nat} {x : Int} (h : Blk w g 3 #[.int .i64 x]) : Sees elInt w w.heap.size (some ⟨g, 0, none⟩) 1 [x] := by
  refine ⟨rfl, .inr ⟨g, 0, rfl, h.lt, fun j y hy i u hu => ?_⟩⟩
  have hj : j = 0 := by have := (List.getElem?_eq_some_iff.1 hy).1; simp at this; omega
  subst hj
  simp at hy; subst hy
  have hu' : [Value.int .i64 x][i]? = some u := hu
  show w.cell? ⟨g, 0 + 0 * 1 + i, none⟩ = some u
  rw [show 0 + 0 * 1 + i = i by omega, h.cell]
  simpa using hu'
section
variable {fs : List Fib} {s to k v : Nat} {seen : List Nat} {ids : List Int} {l : List (List Int)}
theorem rfL_end : rfL fs s to (k + 1) to seen ids l = insR fs (s : Int) l ids := by unfold rfL refL; rw [if_pos rfl]
theorem rfL_on (h : v ≠ to) : rfL fs s to (k + 1) v seen ids l = rfJ fs s to k v seen ids l fs.length := by
  unfold rfL rfJ
  rw [refL, if_neg h]
  rfl
theorem rfJ_succ (j : Nat) : rfJ fs s to k v seen ids l (j + 1) = rfF fs s to k v seen ids (rfJ fs s to k v seen ids l j) j := by
  unfold rfJ
  rw [List.range_succ, List.foldl_append]
  rfl
theorem rfF_none {i : Nat} (h : otherF (fibD fs i) (v : Int) < 0) : rfF fs s to k v seen ids l i = l := by
  unfold rfF; rw [nxF_none h]; split <;> rfl
theorem rfF_seen {i u : Nat} (h : otherF (fibD fs i) (v : Int) = (u : Int)) (hs : u ∈ seen) : rfF fs s to k v seen ids l i = l := by
  unfold rfF; rw [nxF_some h]; simp [hs]
theorem rfF_on {i u : Nat} (h : otherF (fibD fs i) (v : Int) = (u : Int)) (hs : ¬ u ∈ seen) (hl : l.length ≤ 200) : rfF fs s to k v seen ids l i = rfL fs s to k u (u :: seen) (ids ++ [(i : Int)]) l := by
  unfold rfF; rw [nxF_some h]; simp [hs, hl]
theorem rfF_stop {i : Nat} (hl : 200 < l.length) : rfF fs s to k v seen ids l i = l := by
  unfold rfF; rw [if_neg (by omega)]
theorem rfJ_stop {j m : Nat} (h : 200 < (rfJ fs s to k v seen ids l j).length) (hj : j ≤ m) : rfJ fs s to k v seen ids l m = rfJ fs s to k v seen ids l j := by
  obtain ⟨d, rfl⟩ := Nat.exists_eq_add_of_le hj
  clear hj
  induction d with
  | zero => rfl
  | succ d ih => rw [Nat.add_succ, rfJ_succ, rfF_stop (by rw [ih]; exact h), ih]
theorem insR_mem {D l : List (List Int)} : ∀ r ∈ D.foldl (insR fs (s : Int)) l, r ∈ D ∨ r ∈ l := by
  induction D generalizing l with
  | nil => exact fun r h => .inr h
  | cons x D ih =>
    intro r hr
    rcases ih r hr with h | h
    · exact .inl (List.mem_cons_of_mem _ h)
    · rcases List.mem_cons.1 ((insR_perm l x).mem_iff.1 h) with h | h
      · exact .inl (h ▸ List.mem_cons_self)
      · exact .inr h
theorem rfL_ok {n : Nat} (hl : okL fs n l) (h2 : l.length ≤ 200) (hi : ids.length + k ≤ n) (h3 : ∀ x ∈ ids, 0 ≤ x ∧ x < fs.length) : okL fs n (rfL fs s to k v seen ids l) := by
  unfold rfL
  rw [refL_eq (fun l r => insR_len l r) _ _ _ _ _ h2]
  refine ⟨?_, fun r hr => ?_⟩
  · rw [ins_foldl (fun l r => insR_len l r), List.length_take]; omega
  · rcases insR_mem r hr with h | h
    · obtain ⟨e, rfl, h5, h6⟩ := rtsL_mem (fs := fs) k v seen ids r (List.mem_of_mem_take h)
      refine ⟨by rw [List.length_append]; omega, fun x hx => ?_⟩
      rcases List.mem_append.1 hx with hx | hx
      · exact h3 x hx
      · exact h6 x hx
    · exact hl.2 r h
end
section
variable {w0 : World} {n c m d gx : Nat} {A A' : Option Addr} {xs : List ByteArray} {fs : List Fib} {s to : Nat}
/-- The box of the route stands. -/
def sxS (w0 : World) (gr s : Nat) (B : Option Addr) (k e : Nat) (w' : World) : Prop := Led w0 w' [tBlk gr 35 #[.int .i64 (s : Int), .slice B k e]]
theorem sxS_of {w : World} {L : List Thing} {gr k e : Nat} {B : Option Addr} (h : Led w0 w L) (i : Nat) (hi : L[i]? = some (tBlk gr 35 #[.int .i64 (s : Int), .slice B k e])) : sxS w0 gr s B k e w :=
  h.reidx (fun q => i + q) (fun p q hpq => by omega) (fun q t hq => by
    match q, hq with
    | 0, hq => injection hq with hq; subst hq; exact hi
    | q + 1, hq => simp at hq)
set_option maxHeartbeats 8000000 in
set_option maxRecDepth 100000 in
theorem sext_any (hn : NetIs w0 A n c A' m d xs fs) (hG : goodB xs fs = true) (hs8 : s ≤ 1048576) :
    ∀ (k v : Nat) (seen : List Nat) (ids : List Int) (l : List (List Int)) (V : Value) (ss : List (Int × Sl)) (R : List Thing) (B : Option Addr) (e b : Nat) (C : Option Addr) (c2 b2 : Nat) (w : World),
      seen.Nodup → (∀ u ∈ seen, u < n) → seen.length + k = n + 1 → seen.head? = some v → seen.length = ids.length + 1 → (∀ x ∈ ids, 0 ≤ x ∧ x < fs.length) → okL fs n l → l.length ≤ 200 → w0.heap.size ≤ b →
      Led w0 w (tOwns elInt b 3 (.slice B ids.length e) ids :: tOwns elInt b2 3 (.slice C (ids.length + 1) c2) (seenI seen) :: tRS w0.heap.size V ss (l.map fun r => ((s : Int), r)) :: tBlk gx 133 (srX A n c A' m d to V) :: R) →
      Calls Try.prog 126 #[.pointer (some ⟨gx, 0, none⟩), .agg #[.int .i64 (s : Int), .slice B ids.length e], .slice C (ids.length + 1) c2] w fun e' w' => e' = .returned (.tuple #[]) ∧
        ∃ V' ss', Led w0 w' (tRS w0.heap.size V' ss' ((rfL fs s to k v seen ids l).map fun r => ((s : Int), r)) :: tBlk gx 133 (srX A n c A' m d to V') :: R) := by
  obtain ⟨he, hn0, hn8, hm14⟩ := good_parts hn hG
  have HN := hid hn
  have HG := hid hG
  have HE := hid he
  have HLF := hid hn.flen
  clear hn he hG
  intro k
  induction k with
  | zero =>
    intro v seen ids l V ss R B e b C c2 b2 w h1 h2 h3
    exact absurd (fuel_pos h1 h2 h3) (by decide)
  | succ k ih =>
    intro v seen ids l V ss R B e b C c2 b2 w hnd hsn hlen hhd hil hids hok hl200 hbb hL
    have HIH := hid ih
    have H0 := hid (hL.blk_ w.heap.size rfl 35 #[.int .i64 (s : Int), .slice B ids.length e])
    have HND := hid hnd
    have HSN := hid hsn
    have HIDS := hid hids
    have HOK := hid hok
    have HIL := hid hil
    have HLEN := hid hlen
    have hsl := nodup_len n seen hnd hsn
    have hil9 : ids.length ≤ 8 := by omega
    have hlast : (seenI seen)[ids.length]? = some (v : Int) := by
      obtain ⟨tl, rfl⟩ : ∃ tl, seen = v :: tl := by
        cases seen with
        | nil => cases hhd
        | cons a tl => injection hhd with hhd; subst hhd; exact ⟨tl, rfl⟩
      rw [List.length_cons] at hil
      rw [seenI_cons, List.getElem?_append_right (by rw [seenI_len]; omega), seenI_len, show ids.length - tl.length = 0 by omega]
      rfl
    have hvn : v < n := hsn v (List.mem_of_mem_head? hhd)
    have hsee : Sees elInt (w.alloc (.cells #[.int .i64 (s : Int), .slice B ids.length e] 35)) (w.alloc (.cells #[.int .i64 (s : Int), .slice B ids.length e] 35)).heap.size C (ids.length + 1) (seenI seen) := H0.out.sees 2 rfl (by rw [seenI_len]; exact hil.symm)
    obtain ⟨cb, co, rfl, _, hc⟩ := hsee.at_ (k := ids.length) (by omega)
    have f0 := hc ids.length (v : Int) hlast 0 _ rfl
    simp only [elInt, Nat.mul_one, Nat.add_zero] at f0
    have iw : IntKind.i64.wrap (((ids.length + 1 : Nat) : Int) - 1) = (ids.length : Int) := by rw [IntWalk.i64_in _ (by omega)]; omega
    have iw2 : IntKind.i64.wrap (ids.length : Int) = (ids.length : Int) := IntWalk.i64_in _ (by omega)
    have iq : (0 : Int) ≤ (ids.length : Int) := by omega
    unfold srX at H0
    have p2 := H0.out.cell 4 2 rfl rfl
    have p0 := H0.out.cell 0 0 rfl rfl
    have p1 := H0.out.cell 0 1 rfl rfl
    clear ih hL hnd hsn hids hok hil hlen hhd hlast hsee hc
    by_cases hvt : v = to
    · have e1 : ((v : Int) == (to : Int)) = true := by rw [hvt]; exact beq_self_eq_true _
      have HR : Hid (rfL fs s to (k + 1) v seen ids l = insR fs (s : Int) l ids) := by rw [hvt]; exact rfL_end
      have H1 := hid (Led.front (P := [_, _, _, _, _]) (R := R) H0.out [1, 3, 4] (by decide) rfl)
      clear hvt
      go_enter Try.func126, Try.ntmps126
      go_wp2_with fail
      refine (put_any HN.out HG.out hs8 ⟨by omega, HIDS.out⟩ (by have := HOK.out.1; omega) (fun r hr => ⟨by have := (HOK.out.2 r hr).1; omega, (HOK.out.2 r hr).2⟩) hbb H1.out).mono ?_
      rintro e1 w1 ⟨rfl, V', ss', h1⟩
      have H2 := hid h1
      clear h1 p0 p1 p2 f0 H1 H0
      go_wp2_with fail
      exact bodyPost_ret (results_none rfl _ _ _) rfl ⟨rfl, V', ss', by rw [HR.out]; exact H2.out⟩
    · have e1 : ((v : Int) == (to : Int)) = false := by rw [beq_eq_false_iff_ne]; omega
      have HR : Hid (rfL fs s to (k + 1) v seen ids l = rfJ fs s to k v seen ids l m) := by unfold Hid; rw [rfL_on hvt, HLF.out]
      have HS0 : Hid (Led w0 (w.alloc (.cells #[.int .i64 (s : Int), .slice B ids.length e] 35)) (tRS w0.heap.size V ss ((rfJ fs s to k v seen ids l 0).map fun r => ((s : Int), r)) :: tBlk gx 133 (srX A n c A' m d to V) :: tBlk w.heap.size 35 #[.int .i64 (s : Int), .slice B ids.length e] :: tOwns elInt b 3 (.slice B ids.length e) ids :: tOwns elInt b2 3 (.slice (some ⟨cb, co, none⟩) (ids.length + 1) c2) (seenI seen) :: R)) :=
        hid (Led.front (P := [_, _, _, _, _]) (R := R) H0.out [3, 4, 0, 1, 2] (by decide) rfl)
      have HO0 : Hid (okL fs n (rfJ fs s to k v seen ids l 0)) := HOK
      clear hvt H0 HOK
      go_enter Try.func126, Try.ntmps126
      go_wp2_with fail
      clear p0 p1 p2 f0
      go_loopw [7] (fun i wr => ∃ (j : Nat) (V' : Value) (ss' : List (Int × Sl)), j ≤ m ∧ i = .int .i64 j ∧ Hid (okL fs n (rfJ fs s to k v seen ids l j)) ∧ Hid (Led w0 wr (tRS w0.heap.size V' ss' ((rfJ fs s to k v seen ids l j).map fun r => ((s : Int), r)) :: tBlk gx 133 (srX A n c A' m d to V') :: tBlk w.heap.size 35 #[.int .i64 (s : Int), .slice B ids.length e] :: tOwns elInt b 3 (.slice B ids.length e) ids :: tOwns elInt b2 3 (.slice (some ⟨cb, co, none⟩) (ids.length + 1) c2) (seenI seen) :: R))) (fun i _ => m - (intOf i).toNat)
      case atStart => exact ⟨0, V, ss, Nat.zero_le _, rfl, HO0, HS0⟩
      case round =>
        clear HS0 HO0
        obtain ⟨j, V', ss', hj, rfl, HO, HS⟩ := hrel
        obtain ⟨l1, hl1⟩ : ∃ l1, rfJ fs s to k v seen ids l j = l1 := ⟨_, rfl⟩
        have HJ := hid hl1
        rw [hl1] at HS HO
        have hO : OwnsRS wr w0.heap.size V' ss' (l1.map fun r => ((s : Int), r)) := HS.out.get 0 rfl
        obtain ⟨AV, cV, hV, _, _, _⟩ := hO.1.form
        have hsl1 : ss'.length = l1.length := by rw [hO.2.1, List.length_map]
        rw [hsl1] at hV
        subst hV
        clear hO hsl1 hl1
        have x1 := HS.out.cell (l := [.slice A n c, .slice A' m d, .int .i64 (to : Int), .slice AV l1.length cV]) 1 1 rfl rfl
        have x0 := HS.out.cell (l := [.slice A n c, .slice A' m d, .int .i64 (to : Int), .slice AV l1.length cV]) 1 0 rfl rfl
        have x3 := HS.out.cell (l := [.slice A n c, .slice A' m d, .int .i64 (to : Int), .slice AV l1.length cV]) 1 3 rfl rfl
        by_cases hlt : j < m
        · by_cases h200 : l1.length ≤ 200
          · obtain ⟨f, hfj⟩ := get_of (k := j) HLF.out hlt
            have hfd : fibD fs j = f := getD_of hfj
            have hends := HE.out j (by rw [HLF.out]; exact hlt)
            rw [hfd] at hends
            have HU := hid (rfJ_succ (fs := fs) (s := s) (to := to) (k := k) (v := v) (seen := seen) (ids := ids) (l := l) j)
            obtain ⟨u, hu⟩ : ∃ u, otherF f (v : Int) = u := ⟨_, rfl⟩
            have HF : Hid (otherF (fibD fs j) (v : Int) = u) := by rw [hfd]; exact hu
            have hub : u < n := by rw [← hu]; unfold otherF; split <;> (try split) <;> omega
            have HC : Hid (∀ w', Cls wr w' → Calls Try.prog 79 #[.agg #[.slice A n c, .slice A' m d], .int .i64 (j : Int), .int .i64 (v : Int)] w' fun e w2 => e = .returned (.int .i64 u) ∧ Below w'.heap.size w' w2) := fun w' hw' => by
              have := l2Other_any (j : Int) (v : Int) w' (HN.out.grow (HS.out.step hw').bl) (f := f) (by omega) (by omega) (by simpa using hfj)
              rw [hu] at this
              exact this
            clear hfj hfd hends hu
            go_wp2_with fail
            refine (HC.out _ (Cls.refl _)).mono ?_
            rintro e2 w2 ⟨rfl, hb2⟩
            have HS2 := hid (HS.out.step hb2)
            clear HC HS hb2 x0 x1 x3
            by_cases hu0 : u < 0
            · have HN2 : Hid (rfJ fs s to k v seen ids l (j + 1) = l1) := by unfold Hid; rw [HU.out, HJ.out, rfF_none (by rw [HF.out]; exact hu0)]
              go_wp2
              refine ⟨⟨j + 1, _, ss', by omega, by go_num, by rw [HN2.out]; exact HO, by rw [HN2.out]; exact HS2⟩, by first | (simp [intOf]; done) | (simp [intOf]; omega)⟩
            · obtain ⟨q, rfl⟩ : ∃ q : Nat, u = (q : Int) := ⟨u.toNat, by omega⟩
              have hq8 : q < n := by omega
              have HHAS := hid (l1Has_any (c := c2) (q : Int) w2 (HS2.out.sees 4 rfl (by rw [seenI_len]; exact HIL.out.symm)) (by unfold maxLen; omega))
              by_cases hs : q ∈ seen
              · have HN2 : Hid (rfJ fs s to k v seen ids l (j + 1) = l1) := by unfold Hid; rw [HU.out, HJ.out, rfF_seen HF.out hs]
                have HH : Hid (hasB (seenI seen) (q : Int) = true) := hasB_iff.2 (seenI_mem.2 hs)
                rw [HH.out] at HHAS
                clear hs
                go_wp2_with fail
                refine HHAS.out.mono ?_
                rintro e3 w3 ⟨rfl, rfl⟩
                go_wp2
                refine ⟨⟨j + 1, _, ss', by omega, by go_num, by rw [HN2.out]; exact HO, by rw [HN2.out]; exact HS2⟩, by first | (simp [intOf]; done) | (simp [intOf]; omega)⟩
              · have HN2 : Hid (rfJ fs s to k v seen ids l (j + 1) = rfL fs s to k q (q :: seen) (ids ++ [(j : Int)]) l1) := by unfold Hid; rw [HU.out, HJ.out, rfF_on HF.out hs h200]
                have HH : Hid (hasB (seenI seen) (q : Int) = false) := Bool.eq_false_iff.2 (fun h => hs (seenI_mem.1 (hasB_iff.1 h)))
                rw [HH.out] at HHAS
                have HNS := hid hs
                have HLJ : Hid ((ids ++ [(j : Int)]).length = ids.length + 1) := by unfold Hid; rw [List.length_append]; rfl
                have HIDS2 : Hid (∀ x ∈ ids ++ [(j : Int)], 0 ≤ x ∧ x < fs.length) := fun x hx => by
                  rcases List.mem_append.1 hx with hx | hx
                  · exact HIDS.out x hx
                  · rw [List.mem_singleton.1 hx, HLF.out]; omega
                have HO2 : Hid (okL fs n (rfJ fs s to k v seen ids l (j + 1))) := by
                  rw [HN2.out]
                  exact rfL_ok HO.out h200 (by rw [HLJ.out]; have := HLEN.out; have := HIL.out; omega) HIDS2.out
                have HCALL : Hid (∀ (B3 : Option Addr) (e3 : Nat) (C3 : Option Addr) (c3 : Nat) (w3 : World), Led w0 w3 (tOwns elInt w0.heap.size 3 (.slice B3 (ids.length + 1) e3) (ids ++ [(j : Int)]) :: tOwns elInt w0.heap.size 3 (.slice C3 (ids.length + 1 + 1) c3) (seenI seen ++ [(q : Int)]) :: tRS w0.heap.size (.slice AV l1.length cV) ss' (l1.map fun r => ((s : Int), r)) :: tBlk gx 133 (srX A n c A' m d to (.slice AV l1.length cV)) :: tBlk w.heap.size 35 #[.int .i64 (s : Int), .slice B ids.length e] :: tOwns elInt b 3 (.slice B ids.length e) ids :: tOwns elInt b2 3 (.slice (some ⟨cb, co, none⟩) (ids.length + 1) c2) (seenI seen) :: R) →
                    Calls Try.prog 126 #[.pointer (some ⟨gx, 0, none⟩), .agg #[.int .i64 (s : Int), .slice B3 (ids.length + 1) e3], .slice C3 (ids.length + 1 + 1) c3] w3 fun e' w' => e' = .returned (.tuple #[]) ∧
                      ∃ V4 ss4, Led w0 w' (tRS w0.heap.size V4 ss4 ((rfJ fs s to k v seen ids l (j + 1)).map fun r => ((s : Int), r)) :: tBlk gx 133 (srX A n c A' m d to V4) :: tBlk w.heap.size 35 #[.int .i64 (s : Int), .slice B ids.length e] :: tOwns elInt b 3 (.slice B ids.length e) ids :: tOwns elInt b2 3 (.slice (some ⟨cb, co, none⟩) (ids.length + 1) c2) (seenI seen) :: R)) := fun B3 e3 C3 c3 w3 h3 => by
                  have hc := HIH.out q (q :: seen) (ids ++ [(j : Int)]) l1 (.slice AV l1.length cV) ss' (tBlk w.heap.size 35 #[.int .i64 (s : Int), .slice B ids.length e] :: tOwns elInt b 3 (.slice B ids.length e) ids :: tOwns elInt b2 3 (.slice (some ⟨cb, co, none⟩) (ids.length + 1) c2) (seenI seen) :: R) B3 e3 w0.heap.size C3 c3 w0.heap.size w3 (List.nodup_cons.2 ⟨HNS.out, HND.out⟩) (fun u hu => by
                    rcases List.mem_cons.1 hu with e | hu
                    · rw [e]; exact hq8
                    · exact HSN.out u hu) (by rw [List.length_cons]; have := HLEN.out; omega) rfl (by rw [HLJ.out, List.length_cons, HIL.out]) HIDS2.out HO.out h200 (Nat.le_refl _) (by rw [HLJ.out, seenI_cons]; exact h3)
                  rw [HLJ.out] at hc
                  rw [HN2.out]
                  exact hc
                have E0 : ∀ w', sxS w0 w.heap.size s B ids.length e w' → w'.cell? ⟨w.heap.size, 0, none⟩ = some (.int .i64 (s : Int)) := fun _ h => Led.cell h 0 0 rfl rfl
                have E1 : ∀ w', sxS w0 w.heap.size s B ids.length e w' → w'.cell? ⟨w.heap.size, 1, none⟩ = some (.slice B ids.length e) := fun _ h => Led.cell h 0 1 rfl rfl
                obtain ⟨i0, hi, hz0, hz1, hz2⟩ := info_parts int_info
                have hbz := Below.refl 0 w2
                clear hs
                go_wp2_with fail
                refine HHAS.out.mono ?_
                rintro e3 w3 ⟨rfl, rfl⟩
                clear HHAS
                go_wp2_with fail
                refine wp_region_held_drew (S := sxS w0 w.heap.size s B ids.length e) (by kernel_rfl) (sxS_of (HS2.out.step (Cls.drew w2)) 2 rfl) (fun hHeld => ?_)
                refine wpAnyH_take (i := 0) (oi := _) (v := ?_) rfl (by kernel_rfl) (by kernel_rfl) (by kernel_rfl) (fun _ _ _ h => h) (Or.inl ⟨by rfl, ?_⟩) (by assumption) ?_
                rotate_left
                · intro w hSw; go_simp; with_reducible rfl
                simp only [Act.put, List.getElem_toArray, List.getElem_cons_zero, List.setIfInBounds_toArray, List.set_cons_zero, List.set_cons_succ]
                refine wpAnyH_take (i := 1) (oi := _) (v := ?_) rfl (by kernel_rfl) (by kernel_rfl) (by kernel_rfl) (fun _ _ _ h => h) (Or.inl ⟨by rfl, ?_⟩) (by assumption) ?_
                rotate_left
                · intro w hSw; go_simp; with_reducible rfl
                simp only [Act.put, List.getElem_toArray, List.getElem_cons_zero, List.getElem_cons_succ, List.setIfInBounds_toArray, List.set_cons_zero, List.set_cons_succ]
                refine wpAnyH_take (i := 2) (oi := _) (v := ?_) rfl (by kernel_rfl) (by kernel_rfl) (by kernel_rfl) (fun _ _ _ h => h) (Or.inl ⟨by rfl, ?_⟩) (by assumption) ?_
                rotate_left
                · intro w hSw; go_simp; with_reducible rfl
                simp only [Act.put, List.getElem_toArray, List.getElem_cons_zero, List.getElem_cons_succ, List.setIfInBounds_toArray, List.set_cons_zero, List.set_cons_succ]
                refine wpAnyH_take (i := 3) (oi := _) (v := ?_) rfl (by kernel_rfl) (by kernel_rfl) (by kernel_rfl) (fun _ _ _ h => h) (Or.inl ⟨by rfl, ?_⟩) (by assumption) ?_
                rotate_left
                · intro w hSw; go_simp; with_reducible rfl
                simp only [Act.put, List.getElem_toArray, List.getElem_cons_zero, List.getElem_cons_succ, List.setIfInBounds_toArray, List.set_cons_zero, List.set_cons_succ]
                refine wpAnyH_take (i := 4) (oi := _) (v := ?_) rfl (by kernel_rfl) (by kernel_rfl) (by kernel_rfl) (fun _ _ _ h => h) (Or.inl ⟨by rfl, ?_⟩) (by assumption) ?_
                rotate_left
                · intro w hSw; go_simp; with_reducible rfl
                simp only [Act.put, List.getElem_toArray, List.getElem_cons_zero, List.getElem_cons_succ, List.setIfInBounds_toArray, List.set_cons_zero, List.set_cons_succ]
                refine wpAnyH_take (i := 6) (oi := _) (v := ?_) rfl (by kernel_rfl) (by kernel_rfl) (by kernel_rfl) (fun _ _ _ h => h) (Or.inl ⟨by rfl, ?_⟩) (by assumption) ?_
                rotate_left
                · intro w hSw; go_simp; with_reducible rfl
                simp only [Act.put, List.getElem_toArray, List.getElem_cons_zero, List.getElem_cons_succ, List.setIfInBounds_toArray, List.set_cons_zero, List.set_cons_succ]
                refine wpAnyH_take (i := 10) (oi := _) (v := ?_) rfl (by kernel_rfl) (by kernel_rfl) (by kernel_rfl) (fun _ _ _ h => h) (Or.inl ⟨by rfl, ?_⟩) (by assumption) ?_
                rotate_left
                · intro w hSw; go_simp; with_reducible rfl
                simp only [Act.put, List.getElem_toArray, List.getElem_cons_zero, List.getElem_cons_succ, List.setIfInBounds_toArray, List.set_cons_zero, List.set_cons_succ]
                refine wpAnyH_take (i := 12) (oi := _) (v := ?_) rfl (by kernel_rfl) (by kernel_rfl) (by kernel_rfl) (fun _ _ _ h => h) (Or.inl ⟨by rfl, ?_⟩) (by assumption) ?_
                rotate_left
                · intro w hSw; go_simp; with_reducible rfl
                simp only [Act.put, List.getElem_toArray, List.getElem_cons_zero, List.getElem_cons_succ, List.setIfInBounds_toArray, List.set_cons_zero, List.set_cons_succ]
                refine wpAnyH_ready (rs := [5, 7, 13]) (by kernel_rfl) (by simp) ?_
                refine AllReadyH.cons rfl (fun K hK => ?_) ?_
                · skip
                  go_simp
                  refine (l1Own_any _ (((HS2.out.step (Cls.drew w2))).sees 3 rfl rfl) (by omega)).mono ?_
                  rintro e5 ww2 ⟨v1, rfl, ho3, hb4⟩
                  obtain ⟨AA5, cc6, hv, _, _, _⟩ := ho3.form
                  subst hv
                  have k7 := hid (((HS2.out.step (Cls.drew w2))).owns_ (b0 := w0.heap.size) hb4 ho3 (Nat.le_refl _) ((HS2.out.step (Cls.drew w2))).bl.size)
                  clear ho3 hb4
                  go_wp2_with fail
                  refine hK.out _ _ (sxS_of k7.out 3 rfl) (fun hHeld => ?_)
                  clear hK K
                  try simp only [Act.put, List.getElem_toArray, List.getElem_cons_zero, List.getElem_cons_succ, List.setIfInBounds_toArray, List.set_cons_zero, List.set_cons_succ]
                  refine wpAnyH_ready (rs := [7, 13]) (by kernel_rfl) (by simp) ?_
                  refine AllReadyH.cons rfl (fun K hK => ?_) ?_
                  · skip
                    have u8 := hid ((k7.out).blk_ (ww2.heap.size) (by simp) 3 #[.int .i64 (j : Int)])
                    go_simp
                    go_wp2_with fail
                    refine hK.out _ _ (sxS_of u8.out 4 rfl) (fun hHeld => ?_)
                    clear hK K
                    try simp only [Act.put, List.getElem_toArray, List.getElem_cons_zero, List.getElem_cons_succ, List.setIfInBounds_toArray, List.set_cons_zero, List.set_cons_succ]
                    refine wpAnyH_ready (rs := [8, 13]) (by kernel_rfl) (by simp) ?_
                    refine AllReadyH.cons rfl (fun K hK => ?_) ?_
                    · skip
                      refine step_append_led rfl _ _ 33 rfl (u8.out) 1 rfl Try.underlying33 hi hz0 hz1 (by rw [hz2]; decide) rfl rfl rfl (sees_in ((u8.out).get 0 rfl)) (by skip; omega) (u8.out).bl.size ?_
                      intro AA9 cc10 ww11 h12
                      have k13 := hid h12
                      clear h12
                      refine hK.out _ _ (sxS_of k13.out 4 rfl) (fun hHeld => ?_)
                      clear hK K
                      try simp only [Act.put, List.getElem_toArray, List.getElem_cons_zero, List.getElem_cons_succ, List.setIfInBounds_toArray, List.set_cons_zero, List.set_cons_succ]
                      refine wpAnyH_take (i := 9) (oi := _) (v := ?_) rfl (by kernel_rfl) (by kernel_rfl) (by kernel_rfl) (fun _ _ _ h => h) (Or.inl ⟨by rfl, ?_⟩) (by assumption) ?_
                      rotate_left
                      · intro w hSw; go_simp; with_reducible rfl
                      simp only [Act.put, List.getElem_toArray, List.getElem_cons_zero, List.getElem_cons_succ, List.setIfInBounds_toArray, List.set_cons_zero, List.set_cons_succ]
                      refine wpAnyH_ready (rs := [11, 13]) (by kernel_rfl) (by simp) ?_
                      refine AllReadyH.cons rfl (fun K hK => ?_) ?_
                      · skip
                        go_simp
                        refine (l1Own_any _ ((k13.out).sees 6 rfl (by rw [seenI_len]; exact HIL.out.symm)) (by omega)).mono ?_
                        rintro e5 ww15 ⟨v14, rfl, ho16, hb17⟩
                        obtain ⟨AA18, cc19, hv, _, _, _⟩ := ho16.form
                        rw [seenI_len, HIL.out] at hv
                        subst hv
                        have k20 := hid ((k13.out).owns_ (b0 := w0.heap.size) hb17 ho16 (Nat.le_refl _) (k13.out).bl.size)
                        clear ho16 hb17
                        go_wp2_with fail
                        refine hK.out _ _ (sxS_of k20.out 5 rfl) (fun hHeld => ?_)
                        clear hK K
                        try simp only [Act.put, List.getElem_toArray, List.getElem_cons_zero, List.getElem_cons_succ, List.setIfInBounds_toArray, List.set_cons_zero, List.set_cons_succ]
                        refine wpAnyH_ready (rs := [13]) (by kernel_rfl) (by simp) ?_
                        refine AllReadyH.cons rfl (fun K hK => ?_) AllReadyH.nil
                        have u21 := hid ((k20.out).blk_ (ww15.heap.size) (by simp) 3 #[.int .i64 (q : Int)])
                        go_simp
                        go_wp2_with fail
                        refine hK.out _ _ (sxS_of u21.out 6 rfl) (fun hHeld => ?_)
                        clear hK K
                        try simp only [Act.put, List.getElem_toArray, List.getElem_cons_zero, List.getElem_cons_succ, List.setIfInBounds_toArray, List.set_cons_zero, List.set_cons_succ]
                        refine wpAnyH_ready (rs := [14]) (by kernel_rfl) (by simp) ?_
                        refine AllReadyH.cons rfl (fun K hK => ?_) AllReadyH.nil
                        refine step_append_led rfl _ _ 33 rfl (u21.out) 1 rfl Try.underlying33 hi hz0 hz1 (by rw [hz2]; decide) rfl rfl rfl (sees_in ((u21.out).get 0 rfl)) (by rw [seenI_len, HIL.out]; omega) (u21.out).bl.size ?_
                        intro AA22 cc23 ww24 h25
                        rw [seenI_len, HIL.out] at h25 ⊢
                        have k26 := hid h25
                        clear h25
                        refine hK.out _ _ (sxS_of k26.out 6 rfl) (fun hHeld => ?_)
                        clear hK K
                        try simp only [Act.put, List.getElem_toArray, List.getElem_cons_zero, List.getElem_cons_succ, List.setIfInBounds_toArray, List.set_cons_zero, List.set_cons_succ]
                        refine wpAnyH_ready (rs := [15]) (by kernel_rfl) (by simp) ?_
                        refine AllReadyH.cons rfl (fun K hK => ?_) AllReadyH.nil
                        have k27 := hid (Led.front (P := [_, _, _, _, _, _, _, _, _]) (R := R) k26.out [3, 1, 4, 5, 6, 7, 8] (by decide) rfl)
                        go_simp
                        refine (HCALL.out _ _ _ _ _ k27.out).mono ?_
                        rintro e4 w4 ⟨rfl, V4, ss4, h4⟩
                        have H4 := hid h4
                        clear h4
                        go_wp2_with fail
                        refine hK.out _ _ (sxS_of H4.out 2 rfl) (fun hHeld => ?_)
                        clear hK K
                        try simp only [Act.put, List.getElem_toArray, List.getElem_cons_zero, List.getElem_cons_succ, List.setIfInBounds_toArray, List.set_cons_zero, List.set_cons_succ]
                        refine wpAnyH_done (by kernel_rfl) ?_ _
                        go_wp2
                        refine ⟨⟨j + 1, V4, ss4, by omega, by go_num, HO2, H4⟩, by first | (simp [intOf]; done) | (simp [intOf]; omega)⟩
                      refine AllReadyH.cons rfl (fun K hK => ?_) AllReadyH.nil
                      have u28 := hid ((k13.out).blk_ (ww11.heap.size) (by simp) 3 #[.int .i64 (q : Int)])
                      go_simp
                      go_wp2_with fail
                      refine hK.out _ _ (sxS_of u28.out 5 rfl) (fun hHeld => ?_)
                      clear hK K
                      try simp only [Act.put, List.getElem_toArray, List.getElem_cons_zero, List.getElem_cons_succ, List.setIfInBounds_toArray, List.set_cons_zero, List.set_cons_succ]
                      refine wpAnyH_ready (rs := [11]) (by kernel_rfl) (by simp) ?_
                      refine AllReadyH.cons rfl (fun K hK => ?_) AllReadyH.nil
                      go_simp
                      refine (l1Own_any _ ((u28.out).sees 7 rfl (by rw [seenI_len]; exact HIL.out.symm)) (by omega)).mono ?_
                      rintro e5 ww30 ⟨v29, rfl, ho31, hb32⟩
                      obtain ⟨AA33, cc34, hv, _, _, _⟩ := ho31.form
                      rw [seenI_len, HIL.out] at hv
                      subst hv
                      have k35 := hid ((u28.out).owns_ (b0 := w0.heap.size) hb32 ho31 (Nat.le_refl _) (u28.out).bl.size)
                      clear ho31 hb32
                      go_wp2_with fail
                      refine hK.out _ _ (sxS_of k35.out 6 rfl) (fun hHeld => ?_)
                      clear hK K
                      try simp only [Act.put, List.getElem_toArray, List.getElem_cons_zero, List.getElem_cons_succ, List.setIfInBounds_toArray, List.set_cons_zero, List.set_cons_succ]
                      refine wpAnyH_ready (rs := [14]) (by kernel_rfl) (by simp) ?_
                      refine AllReadyH.cons rfl (fun K hK => ?_) AllReadyH.nil
                      refine step_append_led rfl _ _ 33 rfl (k35.out) 0 rfl Try.underlying33 hi hz0 hz1 (by rw [hz2]; decide) rfl rfl rfl (sees_in ((k35.out).get 1 rfl)) (by rw [seenI_len, HIL.out]; omega) (k35.out).bl.size ?_
                      intro AA36 cc37 ww38 h39
                      rw [seenI_len, HIL.out] at h39 ⊢
                      have k40 := hid h39
                      clear h39
                      refine hK.out _ _ (sxS_of k40.out 6 rfl) (fun hHeld => ?_)
                      clear hK K
                      try simp only [Act.put, List.getElem_toArray, List.getElem_cons_zero, List.getElem_cons_succ, List.setIfInBounds_toArray, List.set_cons_zero, List.set_cons_succ]
                      refine wpAnyH_ready (rs := [15]) (by kernel_rfl) (by simp) ?_
                      refine AllReadyH.cons rfl (fun K hK => ?_) AllReadyH.nil
                      have k41 := hid (Led.front (P := [_, _, _, _, _, _, _, _, _]) (R := R) k40.out [3, 0, 4, 5, 6, 7, 8] (by decide) rfl)
                      go_simp
                      refine (HCALL.out _ _ _ _ _ k41.out).mono ?_
                      rintro e4 w4 ⟨rfl, V4, ss4, h4⟩
                      have H4 := hid h4
                      clear h4
                      go_wp2_with fail
                      refine hK.out _ _ (sxS_of H4.out 2 rfl) (fun hHeld => ?_)
                      clear hK K
                      try simp only [Act.put, List.getElem_toArray, List.getElem_cons_zero, List.getElem_cons_succ, List.setIfInBounds_toArray, List.set_cons_zero, List.set_cons_succ]
                      refine wpAnyH_done (by kernel_rfl) ?_ _
                      go_wp2
                      refine ⟨⟨j + 1, V4, ss4, by omega, by go_num, HO2, H4⟩, by first | (simp [intOf]; done) | (simp [intOf]; omega)⟩
                    refine AllReadyH.cons rfl (fun K hK => ?_) AllReadyH.nil
                    have u42 := hid ((u8.out).blk_ (ww2.heap.size + 1) (by simp) 3 #[.int .i64 (q : Int)])
                    go_simp
                    go_wp2_with fail
                    refine hK.out _ _ (sxS_of u42.out 5 rfl) (fun hHeld => ?_)
                    clear hK K
                    try simp only [Act.put, List.getElem_toArray, List.getElem_cons_zero, List.getElem_cons_succ, List.setIfInBounds_toArray, List.set_cons_zero, List.set_cons_succ]
                    refine wpAnyH_ready (rs := [8]) (by kernel_rfl) (by simp) ?_
                    refine AllReadyH.cons rfl (fun K hK => ?_) AllReadyH.nil
                    refine step_append_led rfl _ _ 33 rfl (u42.out) 2 rfl Try.underlying33 hi hz0 hz1 (by rw [hz2]; decide) rfl rfl rfl (sees_in ((u42.out).get 1 rfl)) (by skip; omega) (u42.out).bl.size ?_
                    intro AA43 cc44 ww45 h46
                    have k47 := hid h46
                    clear h46
                    refine hK.out _ _ (sxS_of k47.out 5 rfl) (fun hHeld => ?_)
                    clear hK K
                    try simp only [Act.put, List.getElem_toArray, List.getElem_cons_zero, List.getElem_cons_succ, List.setIfInBounds_toArray, List.set_cons_zero, List.set_cons_succ]
                    refine wpAnyH_take (i := 9) (oi := _) (v := ?_) rfl (by kernel_rfl) (by kernel_rfl) (by kernel_rfl) (fun _ _ _ h => h) (Or.inl ⟨by rfl, ?_⟩) (by assumption) ?_
                    rotate_left
                    · intro w hSw; go_simp; with_reducible rfl
                    simp only [Act.put, List.getElem_toArray, List.getElem_cons_zero, List.getElem_cons_succ, List.setIfInBounds_toArray, List.set_cons_zero, List.set_cons_succ]
                    refine wpAnyH_ready (rs := [11]) (by kernel_rfl) (by simp) ?_
                    refine AllReadyH.cons rfl (fun K hK => ?_) AllReadyH.nil
                    go_simp
                    refine (l1Own_any _ ((k47.out).sees 7 rfl (by rw [seenI_len]; exact HIL.out.symm)) (by omega)).mono ?_
                    rintro e5 ww49 ⟨v48, rfl, ho50, hb51⟩
                    obtain ⟨AA52, cc53, hv, _, _, _⟩ := ho50.form
                    rw [seenI_len, HIL.out] at hv
                    subst hv
                    have k54 := hid ((k47.out).owns_ (b0 := w0.heap.size) hb51 ho50 (Nat.le_refl _) (k47.out).bl.size)
                    clear ho50 hb51
                    go_wp2_with fail
                    refine hK.out _ _ (sxS_of k54.out 6 rfl) (fun hHeld => ?_)
                    clear hK K
                    try simp only [Act.put, List.getElem_toArray, List.getElem_cons_zero, List.getElem_cons_succ, List.setIfInBounds_toArray, List.set_cons_zero, List.set_cons_succ]
                    refine wpAnyH_ready (rs := [14]) (by kernel_rfl) (by simp) ?_
                    refine AllReadyH.cons rfl (fun K hK => ?_) AllReadyH.nil
                    refine step_append_led rfl _ _ 33 rfl (k54.out) 0 rfl Try.underlying33 hi hz0 hz1 (by rw [hz2]; decide) rfl rfl rfl (sees_in ((k54.out).get 1 rfl)) (by rw [seenI_len, HIL.out]; omega) (k54.out).bl.size ?_
                    intro AA55 cc56 ww57 h58
                    rw [seenI_len, HIL.out] at h58 ⊢
                    have k59 := hid h58
                    clear h58
                    refine hK.out _ _ (sxS_of k59.out 6 rfl) (fun hHeld => ?_)
                    clear hK K
                    try simp only [Act.put, List.getElem_toArray, List.getElem_cons_zero, List.getElem_cons_succ, List.setIfInBounds_toArray, List.set_cons_zero, List.set_cons_succ]
                    refine wpAnyH_ready (rs := [15]) (by kernel_rfl) (by simp) ?_
                    refine AllReadyH.cons rfl (fun K hK => ?_) AllReadyH.nil
                    have k60 := hid (Led.front (P := [_, _, _, _, _, _, _, _, _]) (R := R) k59.out [3, 0, 4, 5, 6, 7, 8] (by decide) rfl)
                    go_simp
                    refine (HCALL.out _ _ _ _ _ k60.out).mono ?_
                    rintro e4 w4 ⟨rfl, V4, ss4, h4⟩
                    have H4 := hid h4
                    clear h4
                    go_wp2_with fail
                    refine hK.out _ _ (sxS_of H4.out 2 rfl) (fun hHeld => ?_)
                    clear hK K
                    try simp only [Act.put, List.getElem_toArray, List.getElem_cons_zero, List.getElem_cons_succ, List.setIfInBounds_toArray, List.set_cons_zero, List.set_cons_succ]
                    refine wpAnyH_done (by kernel_rfl) ?_ _
                    go_wp2
                    refine ⟨⟨j + 1, V4, ss4, by omega, by go_num, HO2, H4⟩, by first | (simp [intOf]; done) | (simp [intOf]; omega)⟩
                  refine AllReadyH.cons rfl (fun K hK => ?_) AllReadyH.nil
                  have u61 := hid ((k7.out).blk_ (ww2.heap.size) (by simp) 3 #[.int .i64 (q : Int)])
                  go_simp
                  go_wp2_with fail
                  refine hK.out _ _ (sxS_of u61.out 4 rfl) (fun hHeld => ?_)
                  clear hK K
                  try simp only [Act.put, List.getElem_toArray, List.getElem_cons_zero, List.getElem_cons_succ, List.setIfInBounds_toArray, List.set_cons_zero, List.set_cons_succ]
                  refine wpAnyH_ready (rs := [7]) (by kernel_rfl) (by simp) ?_
                  refine AllReadyH.cons rfl (fun K hK => ?_) AllReadyH.nil
                  have u62 := hid ((u61.out).blk_ (ww2.heap.size + 1) (by simp) 3 #[.int .i64 (j : Int)])
                  go_simp
                  go_wp2_with fail
                  refine hK.out _ _ (sxS_of u62.out 5 rfl) (fun hHeld => ?_)
                  clear hK K
                  try simp only [Act.put, List.getElem_toArray, List.getElem_cons_zero, List.getElem_cons_succ, List.setIfInBounds_toArray, List.set_cons_zero, List.set_cons_succ]
                  refine wpAnyH_ready (rs := [8]) (by kernel_rfl) (by simp) ?_
                  refine AllReadyH.cons rfl (fun K hK => ?_) AllReadyH.nil
                  refine step_append_led rfl _ _ 33 rfl (u62.out) 2 rfl Try.underlying33 hi hz0 hz1 (by rw [hz2]; decide) rfl rfl rfl (sees_in ((u62.out).get 0 rfl)) (by skip; omega) (u62.out).bl.size ?_
                  intro AA63 cc64 ww65 h66
                  have k67 := hid h66
                  clear h66
                  refine hK.out _ _ (sxS_of k67.out 5 rfl) (fun hHeld => ?_)
                  clear hK K
                  try simp only [Act.put, List.getElem_toArray, List.getElem_cons_zero, List.getElem_cons_succ, List.setIfInBounds_toArray, List.set_cons_zero, List.set_cons_succ]
                  refine wpAnyH_take (i := 9) (oi := _) (v := ?_) rfl (by kernel_rfl) (by kernel_rfl) (by kernel_rfl) (fun _ _ _ h => h) (Or.inl ⟨by rfl, ?_⟩) (by assumption) ?_
                  rotate_left
                  · intro w hSw; go_simp; with_reducible rfl
                  simp only [Act.put, List.getElem_toArray, List.getElem_cons_zero, List.getElem_cons_succ, List.setIfInBounds_toArray, List.set_cons_zero, List.set_cons_succ]
                  refine wpAnyH_ready (rs := [11]) (by kernel_rfl) (by simp) ?_
                  refine AllReadyH.cons rfl (fun K hK => ?_) AllReadyH.nil
                  go_simp
                  refine (l1Own_any _ ((k67.out).sees 7 rfl (by rw [seenI_len]; exact HIL.out.symm)) (by omega)).mono ?_
                  rintro e5 ww69 ⟨v68, rfl, ho70, hb71⟩
                  obtain ⟨AA72, cc73, hv, _, _, _⟩ := ho70.form
                  rw [seenI_len, HIL.out] at hv
                  subst hv
                  have k74 := hid ((k67.out).owns_ (b0 := w0.heap.size) hb71 ho70 (Nat.le_refl _) (k67.out).bl.size)
                  clear ho70 hb71
                  go_wp2_with fail
                  refine hK.out _ _ (sxS_of k74.out 6 rfl) (fun hHeld => ?_)
                  clear hK K
                  try simp only [Act.put, List.getElem_toArray, List.getElem_cons_zero, List.getElem_cons_succ, List.setIfInBounds_toArray, List.set_cons_zero, List.set_cons_succ]
                  refine wpAnyH_ready (rs := [14]) (by kernel_rfl) (by simp) ?_
                  refine AllReadyH.cons rfl (fun K hK => ?_) AllReadyH.nil
                  refine step_append_led rfl _ _ 33 rfl (k74.out) 0 rfl Try.underlying33 hi hz0 hz1 (by rw [hz2]; decide) rfl rfl rfl (sees_in ((k74.out).get 2 rfl)) (by rw [seenI_len, HIL.out]; omega) (k74.out).bl.size ?_
                  intro AA75 cc76 ww77 h78
                  rw [seenI_len, HIL.out] at h78 ⊢
                  have k79 := hid h78
                  clear h78
                  refine hK.out _ _ (sxS_of k79.out 6 rfl) (fun hHeld => ?_)
                  clear hK K
                  try simp only [Act.put, List.getElem_toArray, List.getElem_cons_zero, List.getElem_cons_succ, List.setIfInBounds_toArray, List.set_cons_zero, List.set_cons_succ]
                  refine wpAnyH_ready (rs := [15]) (by kernel_rfl) (by simp) ?_
                  refine AllReadyH.cons rfl (fun K hK => ?_) AllReadyH.nil
                  have k80 := hid (Led.front (P := [_, _, _, _, _, _, _, _, _]) (R := R) k79.out [3, 0, 4, 5, 6, 7, 8] (by decide) rfl)
                  go_simp
                  refine (HCALL.out _ _ _ _ _ k80.out).mono ?_
                  rintro e4 w4 ⟨rfl, V4, ss4, h4⟩
                  have H4 := hid h4
                  clear h4
                  go_wp2_with fail
                  refine hK.out _ _ (sxS_of H4.out 2 rfl) (fun hHeld => ?_)
                  clear hK K
                  try simp only [Act.put, List.getElem_toArray, List.getElem_cons_zero, List.getElem_cons_succ, List.setIfInBounds_toArray, List.set_cons_zero, List.set_cons_succ]
                  refine wpAnyH_done (by kernel_rfl) ?_ _
                  go_wp2
                  refine ⟨⟨j + 1, V4, ss4, by omega, by go_num, HO2, H4⟩, by first | (simp [intOf]; done) | (simp [intOf]; omega)⟩
                refine AllReadyH.cons rfl (fun K hK => ?_) ?_
                · skip
                  have u81 := hid ((HS2.out).blk_ (w2.heap.size) (by simp) 3 #[.int .i64 (j : Int)])
                  have a82 := hid (u81.out.step (Cls.drew _))
                  go_simp
                  go_wp2_with fail
                  refine hK.out _ _ (sxS_of a82.out 3 rfl) (fun hHeld => ?_)
                  clear hK K
                  try simp only [Act.put, List.getElem_toArray, List.getElem_cons_zero, List.getElem_cons_succ, List.setIfInBounds_toArray, List.set_cons_zero, List.set_cons_succ]
                  refine wpAnyH_ready (rs := [5, 13]) (by kernel_rfl) (by simp) ?_
                  refine AllReadyH.cons rfl (fun K hK => ?_) ?_
                  · skip
                    go_simp
                    refine (l1Own_any _ ((a82.out).sees 4 rfl rfl) (by omega)).mono ?_
                    rintro e5 ww84 ⟨v83, rfl, ho85, hb86⟩
                    obtain ⟨AA87, cc88, hv, _, _, _⟩ := ho85.form
                    subst hv
                    have k89 := hid ((a82.out).owns_ (b0 := w0.heap.size) hb86 ho85 (Nat.le_refl _) (a82.out).bl.size)
                    clear ho85 hb86
                    go_wp2_with fail
                    refine hK.out _ _ (sxS_of k89.out 4 rfl) (fun hHeld => ?_)
                    clear hK K
                    try simp only [Act.put, List.getElem_toArray, List.getElem_cons_zero, List.getElem_cons_succ, List.setIfInBounds_toArray, List.set_cons_zero, List.set_cons_succ]
                    refine wpAnyH_ready (rs := [8, 13]) (by kernel_rfl) (by simp) ?_
                    refine AllReadyH.cons rfl (fun K hK => ?_) ?_
                    · skip
                      refine step_append_led rfl _ _ 33 rfl (k89.out) 0 rfl Try.underlying33 hi hz0 hz1 (by rw [hz2]; decide) rfl rfl rfl (sees_in ((k89.out).get 1 rfl)) (by skip; omega) (k89.out).bl.size ?_
                      intro AA90 cc91 ww92 h93
                      have k94 := hid h93
                      clear h93
                      refine hK.out _ _ (sxS_of k94.out 4 rfl) (fun hHeld => ?_)
                      clear hK K
                      try simp only [Act.put, List.getElem_toArray, List.getElem_cons_zero, List.getElem_cons_succ, List.setIfInBounds_toArray, List.set_cons_zero, List.set_cons_succ]
                      refine wpAnyH_take (i := 9) (oi := _) (v := ?_) rfl (by kernel_rfl) (by kernel_rfl) (by kernel_rfl) (fun _ _ _ h => h) (Or.inl ⟨by rfl, ?_⟩) (by assumption) ?_
                      rotate_left
                      · intro w hSw; go_simp; with_reducible rfl
                      simp only [Act.put, List.getElem_toArray, List.getElem_cons_zero, List.getElem_cons_succ, List.setIfInBounds_toArray, List.set_cons_zero, List.set_cons_succ]
                      refine wpAnyH_ready (rs := [11, 13]) (by kernel_rfl) (by simp) ?_
                      refine AllReadyH.cons rfl (fun K hK => ?_) ?_
                      · skip
                        go_simp
                        refine (l1Own_any _ ((k94.out).sees 6 rfl (by rw [seenI_len]; exact HIL.out.symm)) (by omega)).mono ?_
                        rintro e5 ww96 ⟨v95, rfl, ho97, hb98⟩
                        obtain ⟨AA99, cc100, hv, _, _, _⟩ := ho97.form
                        rw [seenI_len, HIL.out] at hv
                        subst hv
                        have k101 := hid ((k94.out).owns_ (b0 := w0.heap.size) hb98 ho97 (Nat.le_refl _) (k94.out).bl.size)
                        clear ho97 hb98
                        go_wp2_with fail
                        refine hK.out _ _ (sxS_of k101.out 5 rfl) (fun hHeld => ?_)
                        clear hK K
                        try simp only [Act.put, List.getElem_toArray, List.getElem_cons_zero, List.getElem_cons_succ, List.setIfInBounds_toArray, List.set_cons_zero, List.set_cons_succ]
                        refine wpAnyH_ready (rs := [13]) (by kernel_rfl) (by simp) ?_
                        refine AllReadyH.cons rfl (fun K hK => ?_) AllReadyH.nil
                        have u102 := hid ((k101.out).blk_ (ww96.heap.size) (by simp) 3 #[.int .i64 (q : Int)])
                        go_simp
                        go_wp2_with fail
                        refine hK.out _ _ (sxS_of u102.out 6 rfl) (fun hHeld => ?_)
                        clear hK K
                        try simp only [Act.put, List.getElem_toArray, List.getElem_cons_zero, List.getElem_cons_succ, List.setIfInBounds_toArray, List.set_cons_zero, List.set_cons_succ]
                        refine wpAnyH_ready (rs := [14]) (by kernel_rfl) (by simp) ?_
                        refine AllReadyH.cons rfl (fun K hK => ?_) AllReadyH.nil
                        refine step_append_led rfl _ _ 33 rfl (u102.out) 1 rfl Try.underlying33 hi hz0 hz1 (by rw [hz2]; decide) rfl rfl rfl (sees_in ((u102.out).get 0 rfl)) (by rw [seenI_len, HIL.out]; omega) (u102.out).bl.size ?_
                        intro AA103 cc104 ww105 h106
                        rw [seenI_len, HIL.out] at h106 ⊢
                        have k107 := hid h106
                        clear h106
                        refine hK.out _ _ (sxS_of k107.out 6 rfl) (fun hHeld => ?_)
                        clear hK K
                        try simp only [Act.put, List.getElem_toArray, List.getElem_cons_zero, List.getElem_cons_succ, List.setIfInBounds_toArray, List.set_cons_zero, List.set_cons_succ]
                        refine wpAnyH_ready (rs := [15]) (by kernel_rfl) (by simp) ?_
                        refine AllReadyH.cons rfl (fun K hK => ?_) AllReadyH.nil
                        have k108 := hid (Led.front (P := [_, _, _, _, _, _, _, _, _]) (R := R) k107.out [2, 1, 4, 5, 6, 7, 8] (by decide) rfl)
                        go_simp
                        refine (HCALL.out _ _ _ _ _ k108.out).mono ?_
                        rintro e4 w4 ⟨rfl, V4, ss4, h4⟩
                        have H4 := hid h4
                        clear h4
                        go_wp2_with fail
                        refine hK.out _ _ (sxS_of H4.out 2 rfl) (fun hHeld => ?_)
                        clear hK K
                        try simp only [Act.put, List.getElem_toArray, List.getElem_cons_zero, List.getElem_cons_succ, List.setIfInBounds_toArray, List.set_cons_zero, List.set_cons_succ]
                        refine wpAnyH_done (by kernel_rfl) ?_ _
                        go_wp2
                        refine ⟨⟨j + 1, V4, ss4, by omega, by go_num, HO2, H4⟩, by first | (simp [intOf]; done) | (simp [intOf]; omega)⟩
                      refine AllReadyH.cons rfl (fun K hK => ?_) AllReadyH.nil
                      have u109 := hid ((k94.out).blk_ (ww92.heap.size) (by simp) 3 #[.int .i64 (q : Int)])
                      go_simp
                      go_wp2_with fail
                      refine hK.out _ _ (sxS_of u109.out 5 rfl) (fun hHeld => ?_)
                      clear hK K
                      try simp only [Act.put, List.getElem_toArray, List.getElem_cons_zero, List.getElem_cons_succ, List.setIfInBounds_toArray, List.set_cons_zero, List.set_cons_succ]
                      refine wpAnyH_ready (rs := [11]) (by kernel_rfl) (by simp) ?_
                      refine AllReadyH.cons rfl (fun K hK => ?_) AllReadyH.nil
                      go_simp
                      refine (l1Own_any _ ((u109.out).sees 7 rfl (by rw [seenI_len]; exact HIL.out.symm)) (by omega)).mono ?_
                      rintro e5 ww111 ⟨v110, rfl, ho112, hb113⟩
                      obtain ⟨AA114, cc115, hv, _, _, _⟩ := ho112.form
                      rw [seenI_len, HIL.out] at hv
                      subst hv
                      have k116 := hid ((u109.out).owns_ (b0 := w0.heap.size) hb113 ho112 (Nat.le_refl _) (u109.out).bl.size)
                      clear ho112 hb113
                      go_wp2_with fail
                      refine hK.out _ _ (sxS_of k116.out 6 rfl) (fun hHeld => ?_)
                      clear hK K
                      try simp only [Act.put, List.getElem_toArray, List.getElem_cons_zero, List.getElem_cons_succ, List.setIfInBounds_toArray, List.set_cons_zero, List.set_cons_succ]
                      refine wpAnyH_ready (rs := [14]) (by kernel_rfl) (by simp) ?_
                      refine AllReadyH.cons rfl (fun K hK => ?_) AllReadyH.nil
                      refine step_append_led rfl _ _ 33 rfl (k116.out) 0 rfl Try.underlying33 hi hz0 hz1 (by rw [hz2]; decide) rfl rfl rfl (sees_in ((k116.out).get 1 rfl)) (by rw [seenI_len, HIL.out]; omega) (k116.out).bl.size ?_
                      intro AA117 cc118 ww119 h120
                      rw [seenI_len, HIL.out] at h120 ⊢
                      have k121 := hid h120
                      clear h120
                      refine hK.out _ _ (sxS_of k121.out 6 rfl) (fun hHeld => ?_)
                      clear hK K
                      try simp only [Act.put, List.getElem_toArray, List.getElem_cons_zero, List.getElem_cons_succ, List.setIfInBounds_toArray, List.set_cons_zero, List.set_cons_succ]
                      refine wpAnyH_ready (rs := [15]) (by kernel_rfl) (by simp) ?_
                      refine AllReadyH.cons rfl (fun K hK => ?_) AllReadyH.nil
                      have k122 := hid (Led.front (P := [_, _, _, _, _, _, _, _, _]) (R := R) k121.out [2, 0, 4, 5, 6, 7, 8] (by decide) rfl)
                      go_simp
                      refine (HCALL.out _ _ _ _ _ k122.out).mono ?_
                      rintro e4 w4 ⟨rfl, V4, ss4, h4⟩
                      have H4 := hid h4
                      clear h4
                      go_wp2_with fail
                      refine hK.out _ _ (sxS_of H4.out 2 rfl) (fun hHeld => ?_)
                      clear hK K
                      try simp only [Act.put, List.getElem_toArray, List.getElem_cons_zero, List.getElem_cons_succ, List.setIfInBounds_toArray, List.set_cons_zero, List.set_cons_succ]
                      refine wpAnyH_done (by kernel_rfl) ?_ _
                      go_wp2
                      refine ⟨⟨j + 1, V4, ss4, by omega, by go_num, HO2, H4⟩, by first | (simp [intOf]; done) | (simp [intOf]; omega)⟩
                    refine AllReadyH.cons rfl (fun K hK => ?_) AllReadyH.nil
                    have u123 := hid ((k89.out).blk_ (ww84.heap.size) (by simp) 3 #[.int .i64 (q : Int)])
                    go_simp
                    go_wp2_with fail
                    refine hK.out _ _ (sxS_of u123.out 5 rfl) (fun hHeld => ?_)
                    clear hK K
                    try simp only [Act.put, List.getElem_toArray, List.getElem_cons_zero, List.getElem_cons_succ, List.setIfInBounds_toArray, List.set_cons_zero, List.set_cons_succ]
                    refine wpAnyH_ready (rs := [8]) (by kernel_rfl) (by simp) ?_
                    refine AllReadyH.cons rfl (fun K hK => ?_) AllReadyH.nil
                    refine step_append_led rfl _ _ 33 rfl (u123.out) 1 rfl Try.underlying33 hi hz0 hz1 (by rw [hz2]; decide) rfl rfl rfl (sees_in ((u123.out).get 2 rfl)) (by skip; omega) (u123.out).bl.size ?_
                    intro AA124 cc125 ww126 h127
                    have k128 := hid h127
                    clear h127
                    refine hK.out _ _ (sxS_of k128.out 5 rfl) (fun hHeld => ?_)
                    clear hK K
                    try simp only [Act.put, List.getElem_toArray, List.getElem_cons_zero, List.getElem_cons_succ, List.setIfInBounds_toArray, List.set_cons_zero, List.set_cons_succ]
                    refine wpAnyH_take (i := 9) (oi := _) (v := ?_) rfl (by kernel_rfl) (by kernel_rfl) (by kernel_rfl) (fun _ _ _ h => h) (Or.inl ⟨by rfl, ?_⟩) (by assumption) ?_
                    rotate_left
                    · intro w hSw; go_simp; with_reducible rfl
                    simp only [Act.put, List.getElem_toArray, List.getElem_cons_zero, List.getElem_cons_succ, List.setIfInBounds_toArray, List.set_cons_zero, List.set_cons_succ]
                    refine wpAnyH_ready (rs := [11]) (by kernel_rfl) (by simp) ?_
                    refine AllReadyH.cons rfl (fun K hK => ?_) AllReadyH.nil
                    go_simp
                    refine (l1Own_any _ ((k128.out).sees 7 rfl (by rw [seenI_len]; exact HIL.out.symm)) (by omega)).mono ?_
                    rintro e5 ww130 ⟨v129, rfl, ho131, hb132⟩
                    obtain ⟨AA133, cc134, hv, _, _, _⟩ := ho131.form
                    rw [seenI_len, HIL.out] at hv
                    subst hv
                    have k135 := hid ((k128.out).owns_ (b0 := w0.heap.size) hb132 ho131 (Nat.le_refl _) (k128.out).bl.size)
                    clear ho131 hb132
                    go_wp2_with fail
                    refine hK.out _ _ (sxS_of k135.out 6 rfl) (fun hHeld => ?_)
                    clear hK K
                    try simp only [Act.put, List.getElem_toArray, List.getElem_cons_zero, List.getElem_cons_succ, List.setIfInBounds_toArray, List.set_cons_zero, List.set_cons_succ]
                    refine wpAnyH_ready (rs := [14]) (by kernel_rfl) (by simp) ?_
                    refine AllReadyH.cons rfl (fun K hK => ?_) AllReadyH.nil
                    refine step_append_led rfl _ _ 33 rfl (k135.out) 0 rfl Try.underlying33 hi hz0 hz1 (by rw [hz2]; decide) rfl rfl rfl (sees_in ((k135.out).get 1 rfl)) (by rw [seenI_len, HIL.out]; omega) (k135.out).bl.size ?_
                    intro AA136 cc137 ww138 h139
                    rw [seenI_len, HIL.out] at h139 ⊢
                    have k140 := hid h139
                    clear h139
                    refine hK.out _ _ (sxS_of k140.out 6 rfl) (fun hHeld => ?_)
                    clear hK K
                    try simp only [Act.put, List.getElem_toArray, List.getElem_cons_zero, List.getElem_cons_succ, List.setIfInBounds_toArray, List.set_cons_zero, List.set_cons_succ]
                    refine wpAnyH_ready (rs := [15]) (by kernel_rfl) (by simp) ?_
                    refine AllReadyH.cons rfl (fun K hK => ?_) AllReadyH.nil
                    have k141 := hid (Led.front (P := [_, _, _, _, _, _, _, _, _]) (R := R) k140.out [2, 0, 4, 5, 6, 7, 8] (by decide) rfl)
                    go_simp
                    refine (HCALL.out _ _ _ _ _ k141.out).mono ?_
                    rintro e4 w4 ⟨rfl, V4, ss4, h4⟩
                    have H4 := hid h4
                    clear h4
                    go_wp2_with fail
                    refine hK.out _ _ (sxS_of H4.out 2 rfl) (fun hHeld => ?_)
                    clear hK K
                    try simp only [Act.put, List.getElem_toArray, List.getElem_cons_zero, List.getElem_cons_succ, List.setIfInBounds_toArray, List.set_cons_zero, List.set_cons_succ]
                    refine wpAnyH_done (by kernel_rfl) ?_ _
                    go_wp2
                    refine ⟨⟨j + 1, V4, ss4, by omega, by go_num, HO2, H4⟩, by first | (simp [intOf]; done) | (simp [intOf]; omega)⟩
                  refine AllReadyH.cons rfl (fun K hK => ?_) AllReadyH.nil
                  have u142 := hid ((u81.out).blk_ (w2.heap.size + 1) (by simp) 3 #[.int .i64 (q : Int)])
                  have a143 := hid (u142.out.step (Cls.drew _))
                  go_simp
                  go_wp2_with fail
                  refine hK.out _ _ (sxS_of a143.out 4 rfl) (fun hHeld => ?_)
                  clear hK K
                  try simp only [Act.put, List.getElem_toArray, List.getElem_cons_zero, List.getElem_cons_succ, List.setIfInBounds_toArray, List.set_cons_zero, List.set_cons_succ]
                  refine wpAnyH_ready (rs := [5]) (by kernel_rfl) (by simp) ?_
                  refine AllReadyH.cons rfl (fun K hK => ?_) AllReadyH.nil
                  go_simp
                  refine (l1Own_any _ ((a143.out).sees 5 rfl rfl) (by omega)).mono ?_
                  rintro e5 ww145 ⟨v144, rfl, ho146, hb147⟩
                  obtain ⟨AA148, cc149, hv, _, _, _⟩ := ho146.form
                  subst hv
                  have k150 := hid ((a143.out).owns_ (b0 := w0.heap.size) hb147 ho146 (Nat.le_refl _) (a143.out).bl.size)
                  clear ho146 hb147
                  go_wp2_with fail
                  refine hK.out _ _ (sxS_of k150.out 5 rfl) (fun hHeld => ?_)
                  clear hK K
                  try simp only [Act.put, List.getElem_toArray, List.getElem_cons_zero, List.getElem_cons_succ, List.setIfInBounds_toArray, List.set_cons_zero, List.set_cons_succ]
                  refine wpAnyH_ready (rs := [8]) (by kernel_rfl) (by simp) ?_
                  refine AllReadyH.cons rfl (fun K hK => ?_) AllReadyH.nil
                  refine step_append_led rfl _ _ 33 rfl (k150.out) 0 rfl Try.underlying33 hi hz0 hz1 (by rw [hz2]; decide) rfl rfl rfl (sees_in ((k150.out).get 2 rfl)) (by skip; omega) (k150.out).bl.size ?_
                  intro AA151 cc152 ww153 h154
                  have k155 := hid h154
                  clear h154
                  refine hK.out _ _ (sxS_of k155.out 5 rfl) (fun hHeld => ?_)
                  clear hK K
                  try simp only [Act.put, List.getElem_toArray, List.getElem_cons_zero, List.getElem_cons_succ, List.setIfInBounds_toArray, List.set_cons_zero, List.set_cons_succ]
                  refine wpAnyH_take (i := 9) (oi := _) (v := ?_) rfl (by kernel_rfl) (by kernel_rfl) (by kernel_rfl) (fun _ _ _ h => h) (Or.inl ⟨by rfl, ?_⟩) (by assumption) ?_
                  rotate_left
                  · intro w hSw; go_simp; with_reducible rfl
                  simp only [Act.put, List.getElem_toArray, List.getElem_cons_zero, List.getElem_cons_succ, List.setIfInBounds_toArray, List.set_cons_zero, List.set_cons_succ]
                  refine wpAnyH_ready (rs := [11]) (by kernel_rfl) (by simp) ?_
                  refine AllReadyH.cons rfl (fun K hK => ?_) AllReadyH.nil
                  go_simp
                  refine (l1Own_any _ ((k155.out).sees 7 rfl (by rw [seenI_len]; exact HIL.out.symm)) (by omega)).mono ?_
                  rintro e5 ww157 ⟨v156, rfl, ho158, hb159⟩
                  obtain ⟨AA160, cc161, hv, _, _, _⟩ := ho158.form
                  rw [seenI_len, HIL.out] at hv
                  subst hv
                  have k162 := hid ((k155.out).owns_ (b0 := w0.heap.size) hb159 ho158 (Nat.le_refl _) (k155.out).bl.size)
                  clear ho158 hb159
                  go_wp2_with fail
                  refine hK.out _ _ (sxS_of k162.out 6 rfl) (fun hHeld => ?_)
                  clear hK K
                  try simp only [Act.put, List.getElem_toArray, List.getElem_cons_zero, List.getElem_cons_succ, List.setIfInBounds_toArray, List.set_cons_zero, List.set_cons_succ]
                  refine wpAnyH_ready (rs := [14]) (by kernel_rfl) (by simp) ?_
                  refine AllReadyH.cons rfl (fun K hK => ?_) AllReadyH.nil
                  refine step_append_led rfl _ _ 33 rfl (k162.out) 0 rfl Try.underlying33 hi hz0 hz1 (by rw [hz2]; decide) rfl rfl rfl (sees_in ((k162.out).get 2 rfl)) (by rw [seenI_len, HIL.out]; omega) (k162.out).bl.size ?_
                  intro AA163 cc164 ww165 h166
                  rw [seenI_len, HIL.out] at h166 ⊢
                  have k167 := hid h166
                  clear h166
                  refine hK.out _ _ (sxS_of k167.out 6 rfl) (fun hHeld => ?_)
                  clear hK K
                  try simp only [Act.put, List.getElem_toArray, List.getElem_cons_zero, List.getElem_cons_succ, List.setIfInBounds_toArray, List.set_cons_zero, List.set_cons_succ]
                  refine wpAnyH_ready (rs := [15]) (by kernel_rfl) (by simp) ?_
                  refine AllReadyH.cons rfl (fun K hK => ?_) AllReadyH.nil
                  have k168 := hid (Led.front (P := [_, _, _, _, _, _, _, _, _]) (R := R) k167.out [1, 0, 4, 5, 6, 7, 8] (by decide) rfl)
                  go_simp
                  refine (HCALL.out _ _ _ _ _ k168.out).mono ?_
                  rintro e4 w4 ⟨rfl, V4, ss4, h4⟩
                  have H4 := hid h4
                  clear h4
                  go_wp2_with fail
                  refine hK.out _ _ (sxS_of H4.out 2 rfl) (fun hHeld => ?_)
                  clear hK K
                  try simp only [Act.put, List.getElem_toArray, List.getElem_cons_zero, List.getElem_cons_succ, List.setIfInBounds_toArray, List.set_cons_zero, List.set_cons_succ]
                  refine wpAnyH_done (by kernel_rfl) ?_ _
                  go_wp2
                  refine ⟨⟨j + 1, V4, ss4, by omega, by go_num, HO2, H4⟩, by first | (simp [intOf]; done) | (simp [intOf]; omega)⟩
                refine AllReadyH.cons rfl (fun K hK => ?_) AllReadyH.nil
                have u169 := hid ((HS2.out).blk_ (w2.heap.size) (by simp) 3 #[.int .i64 (q : Int)])
                have a170 := hid (u169.out.step (Cls.drew _))
                go_simp
                go_wp2_with fail
                refine hK.out _ _ (sxS_of a170.out 3 rfl) (fun hHeld => ?_)
                clear hK K
                try simp only [Act.put, List.getElem_toArray, List.getElem_cons_zero, List.getElem_cons_succ, List.setIfInBounds_toArray, List.set_cons_zero, List.set_cons_succ]
                refine wpAnyH_ready (rs := [5, 7]) (by kernel_rfl) (by simp) ?_
                refine AllReadyH.cons rfl (fun K hK => ?_) ?_
                · skip
                  go_simp
                  refine (l1Own_any _ ((a170.out).sees 4 rfl rfl) (by omega)).mono ?_
                  rintro e5 ww172 ⟨v171, rfl, ho173, hb174⟩
                  obtain ⟨AA175, cc176, hv, _, _, _⟩ := ho173.form
                  subst hv
                  have k177 := hid ((a170.out).owns_ (b0 := w0.heap.size) hb174 ho173 (Nat.le_refl _) (a170.out).bl.size)
                  clear ho173 hb174
                  go_wp2_with fail
                  refine hK.out _ _ (sxS_of k177.out 4 rfl) (fun hHeld => ?_)
                  clear hK K
                  try simp only [Act.put, List.getElem_toArray, List.getElem_cons_zero, List.getElem_cons_succ, List.setIfInBounds_toArray, List.set_cons_zero, List.set_cons_succ]
                  refine wpAnyH_ready (rs := [7]) (by kernel_rfl) (by simp) ?_
                  refine AllReadyH.cons rfl (fun K hK => ?_) AllReadyH.nil
                  have u178 := hid ((k177.out).blk_ (ww172.heap.size) (by simp) 3 #[.int .i64 (j : Int)])
                  go_simp
                  go_wp2_with fail
                  refine hK.out _ _ (sxS_of u178.out 5 rfl) (fun hHeld => ?_)
                  clear hK K
                  try simp only [Act.put, List.getElem_toArray, List.getElem_cons_zero, List.getElem_cons_succ, List.setIfInBounds_toArray, List.set_cons_zero, List.set_cons_succ]
                  refine wpAnyH_ready (rs := [8]) (by kernel_rfl) (by simp) ?_
                  refine AllReadyH.cons rfl (fun K hK => ?_) AllReadyH.nil
                  refine step_append_led rfl _ _ 33 rfl (u178.out) 1 rfl Try.underlying33 hi hz0 hz1 (by rw [hz2]; decide) rfl rfl rfl (sees_in ((u178.out).get 0 rfl)) (by skip; omega) (u178.out).bl.size ?_
                  intro AA179 cc180 ww181 h182
                  have k183 := hid h182
                  clear h182
                  refine hK.out _ _ (sxS_of k183.out 5 rfl) (fun hHeld => ?_)
                  clear hK K
                  try simp only [Act.put, List.getElem_toArray, List.getElem_cons_zero, List.getElem_cons_succ, List.setIfInBounds_toArray, List.set_cons_zero, List.set_cons_succ]
                  refine wpAnyH_take (i := 9) (oi := _) (v := ?_) rfl (by kernel_rfl) (by kernel_rfl) (by kernel_rfl) (fun _ _ _ h => h) (Or.inl ⟨by rfl, ?_⟩) (by assumption) ?_
                  rotate_left
                  · intro w hSw; go_simp; with_reducible rfl
                  simp only [Act.put, List.getElem_toArray, List.getElem_cons_zero, List.getElem_cons_succ, List.setIfInBounds_toArray, List.set_cons_zero, List.set_cons_succ]
                  refine wpAnyH_ready (rs := [11]) (by kernel_rfl) (by simp) ?_
                  refine AllReadyH.cons rfl (fun K hK => ?_) AllReadyH.nil
                  go_simp
                  refine (l1Own_any _ ((k183.out).sees 7 rfl (by rw [seenI_len]; exact HIL.out.symm)) (by omega)).mono ?_
                  rintro e5 ww185 ⟨v184, rfl, ho186, hb187⟩
                  obtain ⟨AA188, cc189, hv, _, _, _⟩ := ho186.form
                  rw [seenI_len, HIL.out] at hv
                  subst hv
                  have k190 := hid ((k183.out).owns_ (b0 := w0.heap.size) hb187 ho186 (Nat.le_refl _) (k183.out).bl.size)
                  clear ho186 hb187
                  go_wp2_with fail
                  refine hK.out _ _ (sxS_of k190.out 6 rfl) (fun hHeld => ?_)
                  clear hK K
                  try simp only [Act.put, List.getElem_toArray, List.getElem_cons_zero, List.getElem_cons_succ, List.setIfInBounds_toArray, List.set_cons_zero, List.set_cons_succ]
                  refine wpAnyH_ready (rs := [14]) (by kernel_rfl) (by simp) ?_
                  refine AllReadyH.cons rfl (fun K hK => ?_) AllReadyH.nil
                  refine step_append_led rfl _ _ 33 rfl (k190.out) 0 rfl Try.underlying33 hi hz0 hz1 (by rw [hz2]; decide) rfl rfl rfl (sees_in ((k190.out).get 3 rfl)) (by rw [seenI_len, HIL.out]; omega) (k190.out).bl.size ?_
                  intro AA191 cc192 ww193 h194
                  rw [seenI_len, HIL.out] at h194 ⊢
                  have k195 := hid h194
                  clear h194
                  refine hK.out _ _ (sxS_of k195.out 6 rfl) (fun hHeld => ?_)
                  clear hK K
                  try simp only [Act.put, List.getElem_toArray, List.getElem_cons_zero, List.getElem_cons_succ, List.setIfInBounds_toArray, List.set_cons_zero, List.set_cons_succ]
                  refine wpAnyH_ready (rs := [15]) (by kernel_rfl) (by simp) ?_
                  refine AllReadyH.cons rfl (fun K hK => ?_) AllReadyH.nil
                  have k196 := hid (Led.front (P := [_, _, _, _, _, _, _, _, _]) (R := R) k195.out [2, 0, 4, 5, 6, 7, 8] (by decide) rfl)
                  go_simp
                  refine (HCALL.out _ _ _ _ _ k196.out).mono ?_
                  rintro e4 w4 ⟨rfl, V4, ss4, h4⟩
                  have H4 := hid h4
                  clear h4
                  go_wp2_with fail
                  refine hK.out _ _ (sxS_of H4.out 2 rfl) (fun hHeld => ?_)
                  clear hK K
                  try simp only [Act.put, List.getElem_toArray, List.getElem_cons_zero, List.getElem_cons_succ, List.setIfInBounds_toArray, List.set_cons_zero, List.set_cons_succ]
                  refine wpAnyH_done (by kernel_rfl) ?_ _
                  go_wp2
                  refine ⟨⟨j + 1, V4, ss4, by omega, by go_num, HO2, H4⟩, by first | (simp [intOf]; done) | (simp [intOf]; omega)⟩
                refine AllReadyH.cons rfl (fun K hK => ?_) AllReadyH.nil
                have u197 := hid ((u169.out).blk_ (w2.heap.size + 1) (by simp) 3 #[.int .i64 (j : Int)])
                have a198 := hid (u197.out.step (Cls.drew _))
                go_simp
                go_wp2_with fail
                refine hK.out _ _ (sxS_of a198.out 4 rfl) (fun hHeld => ?_)
                clear hK K
                try simp only [Act.put, List.getElem_toArray, List.getElem_cons_zero, List.getElem_cons_succ, List.setIfInBounds_toArray, List.set_cons_zero, List.set_cons_succ]
                refine wpAnyH_ready (rs := [5]) (by kernel_rfl) (by simp) ?_
                refine AllReadyH.cons rfl (fun K hK => ?_) AllReadyH.nil
                go_simp
                refine (l1Own_any _ ((a198.out).sees 5 rfl rfl) (by omega)).mono ?_
                rintro e5 ww200 ⟨v199, rfl, ho201, hb202⟩
                obtain ⟨AA203, cc204, hv, _, _, _⟩ := ho201.form
                subst hv
                have k205 := hid ((a198.out).owns_ (b0 := w0.heap.size) hb202 ho201 (Nat.le_refl _) (a198.out).bl.size)
                clear ho201 hb202
                go_wp2_with fail
                refine hK.out _ _ (sxS_of k205.out 5 rfl) (fun hHeld => ?_)
                clear hK K
                try simp only [Act.put, List.getElem_toArray, List.getElem_cons_zero, List.getElem_cons_succ, List.setIfInBounds_toArray, List.set_cons_zero, List.set_cons_succ]
                refine wpAnyH_ready (rs := [8]) (by kernel_rfl) (by simp) ?_
                refine AllReadyH.cons rfl (fun K hK => ?_) AllReadyH.nil
                refine step_append_led rfl _ _ 33 rfl (k205.out) 0 rfl Try.underlying33 hi hz0 hz1 (by rw [hz2]; decide) rfl rfl rfl (sees_in ((k205.out).get 1 rfl)) (by skip; omega) (k205.out).bl.size ?_
                intro AA206 cc207 ww208 h209
                have k210 := hid h209
                clear h209
                refine hK.out _ _ (sxS_of k210.out 5 rfl) (fun hHeld => ?_)
                clear hK K
                try simp only [Act.put, List.getElem_toArray, List.getElem_cons_zero, List.getElem_cons_succ, List.setIfInBounds_toArray, List.set_cons_zero, List.set_cons_succ]
                refine wpAnyH_take (i := 9) (oi := _) (v := ?_) rfl (by kernel_rfl) (by kernel_rfl) (by kernel_rfl) (fun _ _ _ h => h) (Or.inl ⟨by rfl, ?_⟩) (by assumption) ?_
                rotate_left
                · intro w hSw; go_simp; with_reducible rfl
                simp only [Act.put, List.getElem_toArray, List.getElem_cons_zero, List.getElem_cons_succ, List.setIfInBounds_toArray, List.set_cons_zero, List.set_cons_succ]
                refine wpAnyH_ready (rs := [11]) (by kernel_rfl) (by simp) ?_
                refine AllReadyH.cons rfl (fun K hK => ?_) AllReadyH.nil
                go_simp
                refine (l1Own_any _ ((k210.out).sees 7 rfl (by rw [seenI_len]; exact HIL.out.symm)) (by omega)).mono ?_
                rintro e5 ww212 ⟨v211, rfl, ho213, hb214⟩
                obtain ⟨AA215, cc216, hv, _, _, _⟩ := ho213.form
                rw [seenI_len, HIL.out] at hv
                subst hv
                have k217 := hid ((k210.out).owns_ (b0 := w0.heap.size) hb214 ho213 (Nat.le_refl _) (k210.out).bl.size)
                clear ho213 hb214
                go_wp2_with fail
                refine hK.out _ _ (sxS_of k217.out 6 rfl) (fun hHeld => ?_)
                clear hK K
                try simp only [Act.put, List.getElem_toArray, List.getElem_cons_zero, List.getElem_cons_succ, List.setIfInBounds_toArray, List.set_cons_zero, List.set_cons_succ]
                refine wpAnyH_ready (rs := [14]) (by kernel_rfl) (by simp) ?_
                refine AllReadyH.cons rfl (fun K hK => ?_) AllReadyH.nil
                refine step_append_led rfl _ _ 33 rfl (k217.out) 0 rfl Try.underlying33 hi hz0 hz1 (by rw [hz2]; decide) rfl rfl rfl (sees_in ((k217.out).get 3 rfl)) (by rw [seenI_len, HIL.out]; omega) (k217.out).bl.size ?_
                intro AA218 cc219 ww220 h221
                rw [seenI_len, HIL.out] at h221 ⊢
                have k222 := hid h221
                clear h221
                refine hK.out _ _ (sxS_of k222.out 6 rfl) (fun hHeld => ?_)
                clear hK K
                try simp only [Act.put, List.getElem_toArray, List.getElem_cons_zero, List.getElem_cons_succ, List.setIfInBounds_toArray, List.set_cons_zero, List.set_cons_succ]
                refine wpAnyH_ready (rs := [15]) (by kernel_rfl) (by simp) ?_
                refine AllReadyH.cons rfl (fun K hK => ?_) AllReadyH.nil
                have k223 := hid (Led.front (P := [_, _, _, _, _, _, _, _, _]) (R := R) k222.out [1, 0, 4, 5, 6, 7, 8] (by decide) rfl)
                go_simp
                refine (HCALL.out _ _ _ _ _ k223.out).mono ?_
                rintro e4 w4 ⟨rfl, V4, ss4, h4⟩
                have H4 := hid h4
                clear h4
                go_wp2_with fail
                refine hK.out _ _ (sxS_of H4.out 2 rfl) (fun hHeld => ?_)
                clear hK K
                try simp only [Act.put, List.getElem_toArray, List.getElem_cons_zero, List.getElem_cons_succ, List.setIfInBounds_toArray, List.set_cons_zero, List.set_cons_succ]
                refine wpAnyH_done (by kernel_rfl) ?_ _
                go_wp2
                refine ⟨⟨j + 1, V4, ss4, by omega, by go_num, HO2, H4⟩, by first | (simp [intOf]; done) | (simp [intOf]; omega)⟩
          · have HN2 : Hid (rfL fs s to (k + 1) v seen ids l = l1) := by unfold Hid; rw [HR.out, rfJ_stop (by rw [HJ.out]; omega) hj, HJ.out]
            have H9 := hid (Led.front (P := [_, _, _, _, _]) (R := R) HS.out [0, 1] (by decide) rfl)
            go_wp2
            go_end0
            exact ⟨rfl, _, ss', by rw [HN2.out]; exact H9.out⟩
        · have hjm : j = m := by omega
          have HN2 : Hid (rfL fs s to (k + 1) v seen ids l = l1) := by unfold Hid; rw [HR.out, ← hjm, HJ.out]
          have H9 := hid (Led.front (P := [_, _, _, _, _]) (R := R) HS.out [0, 1] (by decide) rfl)
          subst hjm
          go_wp2
          go_end0
          exact ⟨rfl, _, ss', by rw [HN2.out]; exact H9.out⟩
end
end Go.Proofs.Ytfepilpllfiegaa
