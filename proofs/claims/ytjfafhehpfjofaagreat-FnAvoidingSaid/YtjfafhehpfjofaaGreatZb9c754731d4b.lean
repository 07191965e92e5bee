/- Lemmas and walks that the claim rests on, laid together. Conditions: none. -/
import Derived.Test.YtjfafhehpfjofaaGreatZ7aaac240a832
import Derived.Test.YtjfafhehpfjofaaGreatZ45b848dcadbc
import Derived.Test.YtjfafhehpfjofaaGreatZ993f646c34a5
import Derived.Deep.RegionHeld3
/- l5Best.extend of the reference, walked. Conditions: none. By bbx.py. -/
namespace Go.Proofs.YtjfafhehpfjofaaGreat
open Go.RowKit
def bbI (q : Nat → Bool) (few : Bool) (fs : List Fib) (s : Int) (D : List Int) (to k v : Nat) (seen : List Nat) (ids : List Int) (o : Option (List Int)) (i : Nat) : Option (List Int) := match nxQ q fs i v with
  | some u => if u ∈ seen then o else bbL q few fs s D to k u (u :: seen) (ids ++ [(i : Int)]) o
  | none => o
def bbJ (q : Nat → Bool) (few : Bool) (fs : List Fib) (s : Int) (D : List Int) (to k v : Nat) (seen : List Nat) (ids : List Int) (o : Option (List Int)) (j : Nat) : Option (List Int) := (List.range j).foldl (bbI q few fs s D to k v seen ids) o
section
variable {q : Nat → Bool} {few : Bool} {fs : List Fib} {s : Int} {D : List Int} {to k v n : Nat} {seen : List Nat} {ids : List Int} {o : Option (List Int)}
theorem bbL_end : bbL q few fs s D to (k + 1) to seen ids o = bst few fs s o ids := by unfold bbL; rw [if_pos rfl]
theorem bbL_cut (h : v ≠ to) (hc : cutR few fs D v ids o = true) : bbL q few fs s D to (k + 1) v seen ids o = o := by unfold bbL; rw [if_neg h, if_pos hc]
theorem bbL_on (h : v ≠ to) (hc : cutR few fs D v ids o = false) : bbL q few fs s D to (k + 1) v seen ids o = bbJ q few fs s D to k v seen ids o fs.length := by
  unfold bbL
  rw [if_neg h, hc, if_neg (by decide)]
  rfl
theorem bbJ_succ (j : Nat) : bbJ q few fs s D to k v seen ids o (j + 1) = bbI q few fs s D to k v seen ids (bbJ q few fs s D to k v seen ids o j) j := by
  unfold bbJ
  rw [List.range_succ, List.foldl_append]
  rfl
theorem bbI_none {i : Nat} (h : otherF (fibD fs i) (v : Int) < 0) : bbI q few fs s D to k v seen ids o i = o := by
  unfold bbI nxQ; rw [nxF_none h]; cases q i <;> rfl
theorem bbI_seen {i u : Nat} (h : otherF (fibD fs i) (v : Int) = (u : Int)) (hs : u ∈ seen) : bbI q few fs s D to k v seen ids o i = o := by
  unfold bbI nxQ; rw [nxF_some h]
  cases q i
  · simp [hs]
  · rfl
theorem bbI_gone {i : Nat} (h : q i = true) : bbI q few fs s D to k v seen ids o i = o := by
  unfold bbI nxQ; rw [h]; rfl
theorem bbI_on {i u : Nat} (h : otherF (fibD fs i) (v : Int) = (u : Int)) (hs : ¬ u ∈ seen) (hq : q i = false) : bbI q few fs s D to k v seen ids o i = bbL q few fs s D to k u (u :: seen) (ids ++ [(i : Int)]) o := by
  unfold bbI nxQ; rw [nxF_some h, hq]; simp [hs]
theorem dfsL_mem {m : Nat} {nx : Nat → Nat → Option Nat} : ∀ (k v : Nat) (seen : List Nat) (ids : List Int), ∀ r ∈ dfsL m to nx k v seen ids, (∃ e, r = ids ++ e ∧ e.length + 1 ≤ k ∧ ∀ x ∈ e, 0 ≤ x ∧ x < m) := by
  intro k
  induction k with
  | zero => intro v seen ids r hr; cases hr
  | succ k ih =>
    intro v seen ids r hr
    rw [dfsL] at hr
    split at hr
    · rw [List.mem_singleton.1 hr]
      exact ⟨[], by simp, by simp, fun x hx => by cases hx⟩
    · obtain ⟨i, hi, hr⟩ := List.mem_flatMap.1 hr
      have hi2 : i < m := by simpa using hi
      split at hr
      · split at hr
        · cases hr
        · obtain ⟨e, he, h1, h2⟩ := ih _ _ _ r hr
          refine ⟨(i : Int) :: e, by rw [he]; simp, by simp; omega, fun x hx => ?_⟩
          rcases List.mem_cons.1 hx with hx | hx
          · rw [hx]; omega
          · exact h2 x hx
      · cases hr
theorem bst_mem : ∀ (l : List (List Int)) (o : Option (List Int)) (r : List Int), l.foldl (bst few fs s) o = some r → o = some r ∨ r ∈ l := by
  intro l
  induction l with
  | nil => intro o r h; exact .inl h
  | cons x l ih =>
    intro o r h
    rcases ih _ r h with h1 | h1
    · unfold bst at h1
      split at h1
      · injection h1 with h1; exact .inr (h1 ▸ List.mem_cons_self)
      · exact .inl h1
    · exact .inr (List.mem_cons_of_mem _ h1)
theorem bbL_ok (he : endsB n fs) (hl : lensB fs) (hs : to < n) (ho : okO fs n o) (hk : ids.length + k ≤ n) (hi : ∀ x ∈ ids, 0 ≤ x ∧ x < fs.length) : okO fs n (bbL q few fs s (distL q fs n to) to k v seen ids o) := by
  intro r hr
  rw [bbL_eq he hl hs] at hr
  rcases bst_mem _ _ _ hr with h | h
  · exact ho r h
  · obtain ⟨e, rfl, h1, h2⟩ := dfsL_mem k v seen ids r h
    refine ⟨by rw [List.length_append]; omega, fun x hx => ?_⟩
    rcases List.mem_append.1 hx with hx | hx
    · exact hi x hx
    · exact h2 x hx
end
section
variable {w0 : World} {n c m d gx gk cg cd : Nat} {A A' G Dl : Option Addr} {xs : List ByteArray} {fs : List Fib} {s to : Nat} {wl : List Int}
/-- The boxes of the search stand. -/
def bxS (w0 : World) (gr gx : Nat) (A : Option Addr) (n c : Nat) (A' : Option Addr) (m d to : Nat) (G : Option Addr) (gk cg : Nat) (Dl : Option Addr) (cd : Nat) (few : Bool) (s : Int) (B : Option Addr) (kk e : Nat) (w' : World) : Prop := ∃ o RV, Led w0 w' [tBlk gr 32 #[.int .i64 s, .slice B kk e], tBlk gx 77 (bxX A n c A' m d to G gk cg Dl cd few s o RV)]
theorem bxS_of {w : World} {L : List Thing} {gr kk e : Nat} {few : Bool} {s : Int} {B : Option Addr} {o : Option (List Int)} {RV : Value} (h : Led w0 w L) (i j : Nat) (hi : L[i]? = some (tBlk gr 32 #[.int .i64 s, .slice B kk e])) (hj : L[j]? = some (tBlk gx 77 (bxX A n c A' m d to G gk cg Dl cd few s o RV))) (hij : i ≠ j) : bxS w0 gr gx A n c A' m d to G gk cg Dl cd few s B kk e w :=
  ⟨o, RV, h.reidx (fun q => if q = 0 then i else if q = 1 then j else q + i + j) (fun p q hpq => by
    show (if p = 0 then i else if p = 1 then j else p + i + j) ≠ (if q = 0 then i else if q = 1 then j else q + i + j)
    repeat' split
    all_goals omega) (fun q t hq => by
    match q, hq with
    | 0, hq => injection hq with hq; subst hq; exact hi
    | 1, hq => injection hq with hq; subst hq; exact hj
    | q + 2, hq => simp at hq)⟩
set_option maxHeartbeats 16000000 in
set_option maxRecDepth 100000 in
theorem bext_any (hn : NetIs w0 A n c A' m d xs fs) (hG : goodB xs fs = true) (hs8 : s ≤ 1048576) (few : Bool) (hto : to < n) (hW : Sees elInt w0 w0.heap.size G gk wl) (hgk : gk ≤ 1048576) (hD : Sees elInt w0 w0.heap.size Dl n (distL (goneF wl) fs n to)) :
    ∀ (k v : Nat) (seen : List Nat) (ids : List Int) (o : Option (List Int)) (RV : Value) (R : List Thing) (B : Option Addr) (e : Nat) (C : Option Addr) (c2 b2 : Nat) (w : World),
      seen.Nodup → (∀ u ∈ seen, u < n) → seen.length + k = n + 1 → seen.head? = some v → seen.length = ids.length + 1 → (∀ x ∈ ids, 0 ≤ x ∧ x < fs.length) → okO fs n o →
      Led w0 w (tOwns elInt w0.heap.size 3 (.slice B ids.length e) ids :: tOwns elInt b2 3 (.slice C (ids.length + 1) c2) (seenI seen) :: tOwns elInt w0.heap.size 3 RV (frL o) :: tBlk gx 77 (bxX A n c A' m d to G gk cg Dl cd few (s : Int) o RV) :: R) →
      Calls Tryz.prog 47 #[.pointer (some ⟨gx, 0, none⟩), .agg #[.int .i64 (s : Int), .slice B ids.length e], .slice C (ids.length + 1) c2, .int .i64 (lenR fs ids)] w fun e' w' => e' = .returned (.tuple #[]) ∧
        ∃ RV', Led w0 w' (tOwns elInt w0.heap.size 3 RV' (frL (bbL (goneF wl) few fs (s : Int) (distL (goneF wl) fs n to) to k v seen ids o)) :: tBlk gx 77 (bxX A n c A' m d to G gk cg Dl cd few (s : Int) (bbL (goneF wl) few fs (s : Int) (distL (goneF wl) fs n to) to k v seen ids o) RV') :: R) := by
  obtain ⟨he, hn0, hn8, hm14⟩ := good_parts hn hG
  have HN := hid hn
  have HG := hid hG
  have HE := hid he
  have HLF := hid hn.flen
  have HW := hid hW
  have HD := hid hD
  have hl5 := goodB_lens5 hG
  have HLB := hid (lens5_pos hl5)
  have HDB : Hid (∀ u, u < n → -1 ≤ valL (distL (goneF wl) fs n to) u ∧ valL (distL (goneF wl) fs n to) u ≤ 1120000) := fun u hu => by
    have h1 := distL_pos (q := goneF wl) he HLB.out hto hu
    have h2 : valL (distL (goneF wl) fs n to) u ≤ 10000 * ((fs.length : Int) * (n : Int)) := dstRnd_bd hl5 n u
    have h3 : (fs.length : Int) * (n : Int) ≤ 14 * 8 := Int.mul_le_mul (by have := hn.flen; omega) (by omega) (by omega) (by omega)
    refine ⟨?_, by omega⟩
    by_cases h4 : u = to
    · have := h1.1 h4; omega
    · rcases h1.2 h4 with h | h <;> omega
  clear hn he hG hW hD hl5
  intro k
  induction k with
  | zero =>
    intro v seen ids o RV R B e C c2 b2 w h1 h2 h3
    exact absurd (fuel_pos h1 h2 h3) (by decide)
  | succ k ih =>
    intro v seen ids o RV R B e C c2 b2 w hnd hsn hlen hhd hil hids hok hL
    have HIH := hid ih
    have H0 := hid (hL.blk_ w.heap.size rfl 32 #[.int .i64 (s : Int), .slice B ids.length e])
    have HB1 := hid (bl_alloc (Below.refl w.heap.size w) (.cells #[.int .i64 (s : Int), .slice B ids.length e] 32))
    have HND := hid hnd
    have HSN := hid hsn
    have HIDS := hid hids
    have HOK := hid hok
    have HIL := hid hil
    have HLEN := hid hlen
    have hsl := nodup_len n seen hnd hsn
    have hil9 : ids.length ≤ 8 := by omega
    have hlast : (seenI seen)[ids.length]? = some (v : Int) := by
      obtain ⟨tl, rfl⟩ : ∃ tl, seen = v :: tl := by
        cases seen with
        | nil => cases hhd
        | cons a tl => injection hhd with hhd; subst hhd; exact ⟨tl, rfl⟩
      rw [List.length_cons] at hil
      rw [seenI_cons, List.getElem?_append_right (by rw [seenI_len]; omega), seenI_len, show ids.length - tl.length = 0 by omega]
      rfl
    have hvn : v < n := hsn v (List.mem_of_mem_head? hhd)
    have hsee : Sees elInt (w.alloc (.cells #[.int .i64 (s : Int), .slice B ids.length e] 32)) (w.alloc (.cells #[.int .i64 (s : Int), .slice B ids.length e] 32)).heap.size C (ids.length + 1) (seenI seen) := H0.out.sees 2 rfl (by rw [seenI_len]; exact hil.symm)
    obtain ⟨cb, co, rfl, _, hc⟩ := hsee.at_ (k := ids.length) (by omega)
    have f0 := hc ids.length (v : Int) hlast 0 _ rfl
    simp only [elInt, Nat.mul_one, Nat.add_zero] at f0
    have iw : IntKind.i64.wrap (((ids.length + 1 : Nat) : Int) - 1) = (ids.length : Int) := by rw [IntWalk.i64_in _ (by omega)]; omega
    have iw2 : IntKind.i64.wrap (ids.length : Int) = (ids.length : Int) := IntWalk.i64_in _ (by omega)
    have iq : (0 : Int) ≤ (ids.length : Int) := by omega
    obtain ⟨RA, rc, hRV, hrc⟩ := hL.form 2 rfl
    subst hRV
    unfold bxX at H0
    have p2 := H0.out.cell 4 2 rfl rfl
    have p0 := H0.out.cell 0 0 rfl rfl
    have p1 := H0.out.cell 0 1 rfl rfl
    clear ih hL hnd hsn hids hok hil hlen hhd hlast hsee hc
    by_cases hvt : v = to
    · have e1 : ((v : Int) == (to : Int)) = true := by rw [hvt]; exact beq_self_eq_true _
      have HR : Hid (bbL (goneF wl) few fs (s : Int) (distL (goneF wl) fs n to) to (k + 1) v seen ids o = bst few fs (s : Int) o ids) := by rw [hvt]; exact bbL_end
      have H1 := hid (Led.front (P := [_, _, _, _, _]) (R := R) H0.out [1, 3, 4, 0] (by decide) rfl)
      have HBET := hid (better_any HN.out HG.out hs8 few ⟨by omega, HIDS.out⟩ HOK.out H1.out)
      clear hvt
      cases g : btR few fs (s : Int) o ids
      · have HR2 : Hid (bbL (goneF wl) few fs (s : Int) (distL (goneF wl) fs n to) to (k + 1) v seen ids o = o) := by unfold Hid; rw [HR.out]; unfold bst; rw [g]; rfl
        rw [g] at HBET
        go_enter Tryz.func47, Tryz.ntmps47
        go_wp2_with fail
        refine HBET.out.mono ?_
        rintro e1 w1 ⟨rfl, hb⟩
        have H2 := hid (Led.front (P := [_, _, _, _]) (R := R) (H1.out.step hb) [1, 2] (by decide) rfl)
        clear HBET hb p0 p1 p2 f0 H1 H0
        go_wp2_with fail
        exact bodyPost_ret (results_none rfl _ _ _) rfl ⟨rfl, _, by rw [HR2.out]; exact H2.out⟩
      · have HR2 : Hid (bbL (goneF wl) few fs (s : Int) (distL (goneF wl) fs n to) to (k + 1) v seen ids o = some ids) := by unfold Hid; rw [HR.out]; unfold bst; rw [g]; rfl
        rw [g] at HBET
        go_enter Tryz.func47, Tryz.ntmps47
        go_wp2_with fail
        refine HBET.out.mono ?_
        rintro e1 w1 ⟨rfl, hb⟩
        have H2 := hid (H1.out.step hb)
        clear HBET hb p0 p1 p2 f0 H1 H0
        have y0 := H2.out.cell 3 0 rfl rfl
        have y1 := H2.out.cell 3 1 rfl rfl
        have x6 := H2.out.cell 2 6 rfl rfl
        have x7 := H2.out.cell 2 7 rfl rfl
        have x8 := H2.out.cell 2 8 rfl rfl
        have z6 := H2.out.frozen 2 6 rfl
        have z7 := H2.out.frozen 2 7 rfl
        have z8 := H2.out.frozen 2 8 rfl
        have H3 := (H2.out.set 2 rfl 6 (.bool true))
        have H4 := (H3.set 2 rfl 7 (.int .i64 (s : Int))).set 2 rfl 8 (.slice B ids.length e)
        have y2 := H3.cell 3 0 rfl rfl
        have y3 := H3.cell 3 1 rfl rfl
        have x9 := H3.cell 2 7 rfl rfl
        have x10 := H3.cell 2 8 rfl rfl
        have z9 := H3.frozen 2 7 rfl
        have z10 := H3.frozen 2 8 rfl
        have H5 := hid (Led.front (P := [_, _, _, _]) (R := R) H4 [0, 2] (by decide) rfl)
        clear H3 H4
        go_wp2_with fail
        exact bodyPost_ret (results_none rfl _ _ _) rfl ⟨rfl, .slice B ids.length e, by rw [HR2.out]; exact H5.out⟩
    · have e1 : ((v : Int) == (to : Int)) = false := by rw [beq_eq_false_iff_ne]; omega
      obtain ⟨dv, hdv⟩ : ∃ dv, valL (distL (goneF wl) fs n to) v = dv := ⟨_, rfl⟩
      have hdvb := HDB.out v hvn
      rw [hdv] at hdvb
      have HDV := hid hdv
      clear hdv
      obtain ⟨db, dO, rfl, _, hdc⟩ := HD.out.at_ (k := v) hvn
      have hd0 : w0.cell? ⟨db, dO + v, none⟩ = some (.int .i64 dv) := by
        have hval : (distL (goneF wl) fs n to)[v]? = some dv := by
          have hl : v < (distL (goneF wl) fs n to).length := by rw [distL_len]; exact hvn
          have h1 := HDV.out
          unfold valL at h1
          rw [List.getD_eq_getElem?_getD, List.getElem?_eq_getElem hl] at h1
          rw [List.getElem?_eq_getElem hl]
          exact congrArg some h1
        have h2 := hdc v dv hval 0 _ rfl
        simpa only [elInt, Nat.mul_one, Nat.add_zero] using h2
      have hlR := rlTo_bd (goodB_lens HG.out) HIDS.out ids.length (Nat.le_refl _)
      have hlR2 : 0 ≤ lenR fs ids ∧ lenR fs ids ≤ 40000 := ⟨hlR.1, by have := hlR.2; unfold lenR; omega⟩
      clear hlR hdc
      obtain ⟨HCUT, HGO⟩ : Hid (cutR few fs (distL (goneF wl) fs n to) v ids o = true → bbL (goneF wl) few fs (s : Int) (distL (goneF wl) fs n to) to (k + 1) v seen ids o = o) ∧ Hid (cutR few fs (distL (goneF wl) fs n to) v ids o = false → bbL (goneF wl) few fs (s : Int) (distL (goneF wl) fs n to) to (k + 1) v seen ids o = bbJ (goneF wl) few fs (s : Int) (distL (goneF wl) fs n to) to k v seen ids o m) :=
        ⟨fun h => bbL_cut hvt h, fun h => by rw [bbL_on hvt h, HLF.out]⟩
      have H1 := hid (Led.front (P := [_, _, _, _, _]) (R := R) H0.out [3, 4, 0, 1, 2] (by decide) rfl)
      clear hvt
      go_enter Tryz.func47, Tryz.ntmps47
      go_wp2_with fail
      rename_i K1 a1 K2 a2
      clear p0 p1 p2 f0
      have hloop : ∀ (y11 y12 y13 y14 y15 y16 y17 y18 y19 y20 y21 y22 y23 y24 y25 y26 y27 y28 y29 y30 y31 y32 y33 y34 y35 y36 y37 y38 y39 y40 y41 y42 y43 y44 y45 y46 y47 y48 y49 y50 y51 y52 y53 y54 y55 y56 y57 y58 y59 y60 y61 y62 y63 y64 y65 y66 y67 y68 y69 y70 y71 y72 y73 y74 y75 y76 y77 y78 y79 y80 y81 y82 y83 y84 y85 y86 y87 y88 y89 y90 y91 y92 y93 y94 y95 y96 y97 y98 : Value) (wz : World), Hid (Led w0 wz (tOwns elInt w0.heap.size 3 (.slice RA (frL o).length rc) (frL o) :: tBlk gx 77 (bxX A n c A' m d to G gk cg (some ⟨db, dO, none⟩) cd few (s : Int) o (.slice RA (frL o).length rc)) :: tBlk w.heap.size 32 #[.int .i64 (s : Int), .slice B ids.length e] :: tOwns elInt w0.heap.size 3 (.slice B ids.length e) ids :: tOwns elInt b2 3 (.slice (some ⟨cb, co, none⟩) (ids.length + 1) c2) (seenI seen) :: R)) → cutR few fs (distL (goneF wl) fs n to) v ids o = false → K1 { tmps := #[.pointer (some ⟨gx, 0, none⟩), .agg #[.int .i64 (s : Int), .slice B ids.length e], .slice (some ⟨cb, co, none⟩) (ids.length + 1) c2, .int .i64 (lenR fs ids), undef, .pointer (some ⟨w.heap.size, 0, none⟩), undef, undef, .int .i64 (v : Int), undef, undef, y11, y12, y13, y14, y15, y16, y17, y18, y19, y20, y21, y22, y23, y24, y25, y26, y27, y28, y29, y30, y31, y32, y33, y34, y35, y36, y37, y38, y39, y40, y41, y42, y43, y44, y45, y46, y47, y48, y49, y50, y51, y52, y53, y54, y55, y56, y57, y58, y59, y60, y61, y62, y63, y64, y65, y66, y67, y68, y69, y70, y71, y72, y73, y74, y75, y76, y77, y78, y79, y80, y81, y82, y83, y84, y85, y86, y87, y88, y89, y90, y91, y92, y93, y94, y95, y96, y97, y98, undef, undef, undef, undef, undef, undef, undef, undef, undef, undef, undef, undef, undef, undef, undef, undef, undef, undef, undef, undef, undef, undef, undef, undef, undef, undef, undef, undef, undef, undef, undef, undef, undef, undef, undef, undef, undef, undef, undef, undef, undef, undef, undef, undef, undef, undef, undef, undef, undef, undef, undef, undef, undef, undef, undef, undef, undef, undef, undef, undef, undef], defers := [] } wz := by
        intro y11 y12 y13 y14 y15 y16 y17 y18 y19 y20 y21 y22 y23 y24 y25 y26 y27 y28 y29 y30 y31 y32 y33 y34 y35 y36 y37 y38 y39 y40 y41 y42 y43 y44 y45 y46 y47 y48 y49 y50 y51 y52 y53 y54 y55 y56 y57 y58 y59 y60 y61 y62 y63 y64 y65 y66 y67 y68 y69 y70 y71 y72 y73 y74 y75 y76 y77 y78 y79 y80 y81 y82 y83 y84 y85 y86 y87 y88 y89 y90 y91 y92 y93 y94 y95 y96 y97 y98 wz HZ hcut
        have HR : Hid (bbL (goneF wl) few fs (s : Int) (distL (goneF wl) fs n to) to (k + 1) v seen ids o = bbJ (goneF wl) few fs (s : Int) (distL (goneF wl) fs n to) to k v seen ids o m) := HGO.out hcut
        have HO0 : Hid (okO fs n (bbJ (goneF wl) few fs (s : Int) (distL (goneF wl) fs n to) to k v seen ids o 0)) := HOK
        have HS0 : Hid (Led w0 wz (tOwns elInt w0.heap.size 3 (.slice RA (frL (bbJ (goneF wl) few fs (s : Int) (distL (goneF wl) fs n to) to k v seen ids o 0)).length rc) (frL (bbJ (goneF wl) few fs (s : Int) (distL (goneF wl) fs n to) to k v seen ids o 0)) :: tBlk gx 77 (bxX A n c A' m d to G gk cg (some ⟨db, dO, none⟩) cd few (s : Int) (bbJ (goneF wl) few fs (s : Int) (distL (goneF wl) fs n to) to k v seen ids o 0) (.slice RA (frL (bbJ (goneF wl) few fs (s : Int) (distL (goneF wl) fs n to) to k v seen ids o 0)).length rc)) :: tBlk w.heap.size 32 #[.int .i64 (s : Int), .slice B ids.length e] :: tOwns elInt w0.heap.size 3 (.slice B ids.length e) ids :: tOwns elInt b2 3 (.slice (some ⟨cb, co, none⟩) (ids.length + 1) c2) (seenI seen) :: R)) := HZ
        refine a1 _ _ ?_
        clear a1 a2 H0 H1 HCUT HGO hcut HZ hd0
        go_wp2_with fail
        go_loopw [9] (fun i wr => ∃ (j : Nat) (RV' : Value), j ≤ m ∧ i = .int .i64 j ∧ Hid (okO fs n (bbJ (goneF wl) few fs (s : Int) (distL (goneF wl) fs n to) to k v seen ids o j)) ∧ Hid (Led w0 wr (tOwns elInt w0.heap.size 3 RV' (frL (bbJ (goneF wl) few fs (s : Int) (distL (goneF wl) fs n to) to k v seen ids o j)) :: tBlk gx 77 (bxX A n c A' m d to G gk cg (some ⟨db, dO, none⟩) cd few (s : Int) (bbJ (goneF wl) few fs (s : Int) (distL (goneF wl) fs n to) to k v seen ids o j) RV') :: tBlk w.heap.size 32 #[.int .i64 (s : Int), .slice B ids.length e] :: tOwns elInt w0.heap.size 3 (.slice B ids.length e) ids :: tOwns elInt b2 3 (.slice (some ⟨cb, co, none⟩) (ids.length + 1) c2) (seenI seen) :: R))) (fun i _ => m - (intOf i).toNat)
        case atStart => exact ⟨0, _, Nat.zero_le _, rfl, HO0, HS0⟩
        case round =>
          clear HS0 HO0
          obtain ⟨j, RV', hj, rfl, HO, HS⟩ := hrel
          obtain ⟨o1, ho1⟩ : ∃ o1, bbJ (goneF wl) few fs (s : Int) (distL (goneF wl) fs n to) to k v seen ids o j = o1 := ⟨_, rfl⟩
          have HJ := hid ho1
          rw [ho1] at HS HO
          obtain ⟨RA1, rc1, hRV, _⟩ := HS.out.form 0 rfl
          subst hRV
          clear ho1
          have x1 := HS.out.cell (l := [.slice A n c, .slice A' m d, .int .i64 (to : Int), .slice G gk cg, .slice (some ⟨db, dO, none⟩) n cd, .bool few, .bool o1.isSome, .int .i64 (frS o1 (s : Int)), .slice RA1 (frL o1).length rc1]) 1 1 rfl rfl
          have x0 := HS.out.cell (l := [.slice A n c, .slice A' m d, .int .i64 (to : Int), .slice G gk cg, .slice (some ⟨db, dO, none⟩) n cd, .bool few, .bool o1.isSome, .int .i64 (frS o1 (s : Int)), .slice RA1 (frL o1).length rc1]) 1 0 rfl rfl
          have x3 := HS.out.cell (l := [.slice A n c, .slice A' m d, .int .i64 (to : Int), .slice G gk cg, .slice (some ⟨db, dO, none⟩) n cd, .bool few, .bool o1.isSome, .int .i64 (frS o1 (s : Int)), .slice RA1 (frL o1).length rc1]) 1 3 rfl rfl
          by_cases hlt : j < m
          · obtain ⟨f, hfj⟩ := get_of (k := j) HLF.out hlt
            have hfd : fibD fs j = f := getD_of hfj
            have hends := HE.out j (by rw [HLF.out]; exact hlt)
            rw [hfd] at hends
            have HU := hid (bbJ_succ (q := goneF wl) (few := few) (fs := fs) (s := (s : Int)) (D := distL (goneF wl) fs n to) (to := to) (k := k) (v := v) (seen := seen) (ids := ids) (o := o) j)
            obtain ⟨u, hu⟩ : ∃ u, otherF f (v : Int) = u := ⟨_, rfl⟩
            have HF : Hid (otherF (fibD fs j) (v : Int) = u) := by rw [hfd]; exact hu
            have hub : u < n := by rw [← hu]; unfold otherF; split <;> (try split) <;> omega
            have HC : Hid (∀ w', Cls wr w' → Calls Tryz.prog 76 #[.agg #[.slice A n c, .slice A' m d], .int .i64 (j : Int), .int .i64 (v : Int)] w' fun e w2 => e = .returned (.int .i64 u) ∧ Below w'.heap.size w' w2) := fun w' hw' => by
              have := l2Other_any (j : Int) (v : Int) w' (HN.out.grow (HS.out.step hw').bl) (f := f) (by omega) (by omega) (by simpa using hfj)
              rw [hu] at this
              exact this
            have hfl : 1 ≤ f.len ∧ f.len ≤ 5000 := by
              have h1 := goodB_lens5 HG.out j (by rw [HLF.out]; exact hlt)
              rw [hfd] at h1
              exact h1
            have HLJ2 : Hid (lenR fs (ids ++ [(j : Int)]) = lenR fs ids + f.len) := by unfold Hid; rw [lenR_app, lenR_one, hfd]
            have iwl : IntKind.i64.wrap (lenR fs ids + f.len) = lenR fs ids + f.len := IntWalk.i64_in _ (by omega)
            obtain ⟨nb, no, hA', _, hfc⟩ := HN.out.fibs.at_ (k := j) hlt
            have f2 := hfc j f hfj 2 _ rfl
            simp only [elFib] at f2
            subst hA'
            clear hfj hfd hends hu hfc
            go_wp2_with fail
            refine (HC.out _ (Cls.refl _)).mono ?_
            rintro e2 w2 ⟨rfl, hb2⟩
            have HS2 := hid (HS.out.step hb2)
            have y3 := HS2.out.cell (l := [.slice A n c, .slice (some ⟨nb, no, none⟩) m d, .int .i64 (to : Int), .slice G gk cg, .slice (some ⟨db, dO, none⟩) n cd, .bool few, .bool o1.isSome, .int .i64 (frS o1 (s : Int)), .slice RA1 (frL o1).length rc1]) 1 3 rfl rfl
            clear HC HS hb2 x0 x1 x3
            by_cases hu0 : u < 0
            · have HN2 : Hid (bbJ (goneF wl) few fs (s : Int) (distL (goneF wl) fs n to) to k v seen ids o (j + 1) = o1) := by unfold Hid; rw [HU.out, HJ.out, bbI_none (by rw [HF.out]; exact hu0)]
              go_wp2
              refine ⟨⟨j + 1, _, by omega, by go_num, by rw [HN2.out]; exact HO, by rw [HN2.out]; exact HS2⟩, by first | (simp [intOf]; done) | (simp [intOf]; omega)⟩
            · obtain ⟨q, rfl⟩ : ∃ q : Nat, u = (q : Int) := ⟨u.toNat, by omega⟩
              have hq8 : q < n := by omega
              have HHAS := hid (l1Has_any (c := c2) (q : Int) w2 (HS2.out.sees 4 rfl (by rw [seenI_len]; exact HIL.out.symm)) (by unfold maxLen; omega))
              have HHW := hid (l1Has_any (c := cg) (j : Int) w2 (HW.out.grow HS2.out.bl) (by unfold maxLen; omega))
              by_cases hs : q ∈ seen
              · have HN2 : Hid (bbJ (goneF wl) few fs (s : Int) (distL (goneF wl) fs n to) to k v seen ids o (j + 1) = o1) := by unfold Hid; rw [HU.out, HJ.out, bbI_seen HF.out hs]
                have HH : Hid (hasB (seenI seen) (q : Int) = true) := hasB_iff.2 (seenI_mem.2 hs)
                rw [HH.out] at HHAS
                clear hs
                go_wp2_with fail
                refine HHAS.out.mono ?_
                rintro e3 w3 ⟨rfl, rfl⟩
                go_wp2
                refine ⟨⟨j + 1, _, by omega, by go_num, by rw [HN2.out]; exact HO, by rw [HN2.out]; exact HS2⟩, by first | (simp [intOf]; done) | (simp [intOf]; omega)⟩
              · have HH : Hid (hasB (seenI seen) (q : Int) = false) := Bool.eq_false_iff.2 (fun h => hs (seenI_mem.1 (hasB_iff.1 h)))
                rw [HH.out] at HHAS
                cases hg : goneF wl j
                case true =>
                  have HN2 : Hid (bbJ (goneF wl) few fs (s : Int) (distL (goneF wl) fs n to) to k v seen ids o (j + 1) = o1) := by unfold Hid; rw [HU.out, HJ.out, bbI_gone hg]
                  unfold goneF at hg
                  rw [hg] at HHW
                  clear hs hg
                  go_wp2_with fail
                  refine HHAS.out.mono ?_
                  rintro e3 w3 ⟨rfl, rfl⟩
                  go_wp2_with fail
                  refine HHW.out.mono ?_
                  rintro e3 w3 ⟨rfl, rfl⟩
                  go_wp2
                  refine ⟨⟨j + 1, _, by omega, by go_num, by rw [HN2.out]; exact HO, by rw [HN2.out]; exact HS2⟩, by first | (simp [intOf]; done) | (simp [intOf]; omega)⟩
                case false =>
                  have HN2 : Hid (bbJ (goneF wl) few fs (s : Int) (distL (goneF wl) fs n to) to k v seen ids o (j + 1) = bbL (goneF wl) few fs (s : Int) (distL (goneF wl) fs n to) to k q (q :: seen) (ids ++ [(j : Int)]) o1) := by unfold Hid; rw [HU.out, HJ.out, bbI_on HF.out hs hg]
                  unfold goneF at hg
                  rw [hg] at HHW
                  have HNS := hid hs
                  have HLJ : Hid ((ids ++ [(j : Int)]).length = ids.length + 1) := by unfold Hid; rw [List.length_append]; rfl
                  have HIDS2 : Hid (∀ x ∈ ids ++ [(j : Int)], 0 ≤ x ∧ x < fs.length) := fun x hx => by
                    rcases List.mem_append.1 hx with hx | hx
                    · exact HIDS.out x hx
                    · rw [List.mem_singleton.1 hx, HLF.out]; omega
                  have HO2 : Hid (okO fs n (bbJ (goneF wl) few fs (s : Int) (distL (goneF wl) fs n to) to k v seen ids o (j + 1))) := by
                    rw [HN2.out]
                    exact bbL_ok HE.out HLB.out hto HO.out (by rw [HLJ.out]; have := HLEN.out; have := HIL.out; omega) HIDS2.out
                  have HCALL : Hid (∀ (B3 : Option Addr) (e3 : Nat) (C3 : Option Addr) (c3 : Nat) (w3 : World), Led w0 w3 (tOwns elInt w0.heap.size 3 (.slice B3 (ids.length + 1) e3) (ids ++ [(j : Int)]) :: tOwns elInt w0.heap.size 3 (.slice C3 (ids.length + 1 + 1) c3) (seenI seen ++ [(q : Int)]) :: tOwns elInt w0.heap.size 3 (.slice RA1 (frL o1).length rc1) (frL o1) :: tBlk gx 77 (bxX A n c (some ⟨nb, no, none⟩) m d to G gk cg (some ⟨db, dO, none⟩) cd few (s : Int) o1 (.slice RA1 (frL o1).length rc1)) :: tBlk w.heap.size 32 #[.int .i64 (s : Int), .slice B ids.length e] :: tOwns elInt w0.heap.size 3 (.slice B ids.length e) ids :: tOwns elInt b2 3 (.slice (some ⟨cb, co, none⟩) (ids.length + 1) c2) (seenI seen) :: R) →
                      Calls Tryz.prog 47 #[.pointer (some ⟨gx, 0, none⟩), .agg #[.int .i64 (s : Int), .slice B3 (ids.length + 1) e3], .slice C3 (ids.length + 1 + 1) c3, .int .i64 (lenR fs ids + f.len)] w3 fun e' w' => e' = .returned (.tuple #[]) ∧
                        ∃ RV4, Led w0 w' (tOwns elInt w0.heap.size 3 RV4 (frL (bbJ (goneF wl) few fs (s : Int) (distL (goneF wl) fs n to) to k v seen ids o (j + 1))) :: tBlk gx 77 (bxX A n c (some ⟨nb, no, none⟩) m d to G gk cg (some ⟨db, dO, none⟩) cd few (s : Int) (bbJ (goneF wl) few fs (s : Int) (distL (goneF wl) fs n to) to k v seen ids o (j + 1)) RV4) :: tBlk w.heap.size 32 #[.int .i64 (s : Int), .slice B ids.length e] :: tOwns elInt w0.heap.size 3 (.slice B ids.length e) ids :: tOwns elInt b2 3 (.slice (some ⟨cb, co, none⟩) (ids.length + 1) c2) (seenI seen) :: R)) := fun B3 e3 C3 c3 w3 h3 => by
                    have hc := HIH.out q (q :: seen) (ids ++ [(j : Int)]) o1 (.slice RA1 (frL o1).length rc1) (tBlk w.heap.size 32 #[.int .i64 (s : Int), .slice B ids.length e] :: tOwns elInt w0.heap.size 3 (.slice B ids.length e) ids :: tOwns elInt b2 3 (.slice (some ⟨cb, co, none⟩) (ids.length + 1) c2) (seenI seen) :: R) B3 e3 C3 c3 w0.heap.size w3 (List.nodup_cons.2 ⟨HNS.out, HND.out⟩) (fun u hu => by
                      rcases List.mem_cons.1 hu with e | hu
                      · rw [e]; exact hq8
                      · exact HSN.out u hu) (by rw [List.length_cons]; have := HLEN.out; omega) rfl (by rw [HLJ.out, List.length_cons, HIL.out]) HIDS2.out HO.out (by rw [HLJ.out, seenI_cons]; exact h3)
                    rw [HLJ.out, HLJ2.out] at hc
                    rw [HN2.out]
                    exact hc
                  have E0 : ∀ w', bxS w0 w.heap.size gx A n c (some ⟨nb, no, none⟩) m d to G gk cg (some ⟨db, dO, none⟩) cd few (s : Int) B ids.length e w' → w'.cell? ⟨w.heap.size, 0, none⟩ = some (.int .i64 (s : Int)) := fun _ ⟨_, _, h⟩ => Led.cell h 0 0 rfl rfl
                  have E1 : ∀ w', bxS w0 w.heap.size gx A n c (some ⟨nb, no, none⟩) m d to G gk cg (some ⟨db, dO, none⟩) cd few (s : Int) B ids.length e w' → w'.cell? ⟨w.heap.size, 1, none⟩ = some (.slice B ids.length e) := fun _ ⟨_, _, h⟩ => Led.cell h 0 1 rfl rfl
                  have E2 : ∀ w', bxS w0 w.heap.size gx A n c (some ⟨nb, no, none⟩) m d to G gk cg (some ⟨db, dO, none⟩) cd few (s : Int) B ids.length e w' → w'.cell? ⟨gx, 1, none⟩ = some (.slice (some ⟨nb, no, none⟩) m d) := fun _ ⟨_, _, h⟩ => Led.cell (l := [_, _, _, _, _, _, _, _, _]) h 1 1 rfl rfl
                  have E3 : ∀ w', bxS w0 w.heap.size gx A n c (some ⟨nb, no, none⟩) m d to G gk cg (some ⟨db, dO, none⟩) cd few (s : Int) B ids.length e w' → w'.cell? ⟨nb, no + j * 4 + 2, none⟩ = some (.int .i64 f.len) := fun _ ⟨_, _, h⟩ => bl_cell h.bl f2
                  obtain ⟨i0, hi, hz0, hz1, hz2⟩ := info_parts int_info
                  have hbz := Below.refl 0 w2
                  have ij0 : (0 : Int) ≤ (j : Int) := by omega
                  have ij1 : (j : Int) < (m : Int) := by omega
                  clear hs hg f2
                  go_wp2_with fail
                  refine HHAS.out.mono ?_
                  rintro e3 w3 ⟨rfl, rfl⟩
                  go_wp2_with fail
                  refine HHW.out.mono ?_
                  rintro e3 w3 ⟨rfl, rfl⟩
                  clear HHAS HHW y3
                  go_wp2_with fail
                  refine wp_region_held_drew (S := bxS w0 w.heap.size gx A n c (some ⟨nb, no, none⟩) m d to G gk cg (some ⟨db, dO, none⟩) cd few (s : Int) B ids.length e) (by kernel_rfl) (bxS_of (HS2.out.step (Cls.drew w2)) 2 1 rfl rfl (by decide)) (fun hHeld => ?_)
                  refine wpAnyH_take (i := 0) (oi := _) (v := ?_) rfl (by kernel_rfl) (by kernel_rfl) (by kernel_rfl) (fun _ _ _ h => h) (Or.inl ⟨by rfl, ?_⟩) (by assumption) ?_
                  rotate_left
                  · intro w hSw; go_simp; with_reducible rfl
                  simp only [Act.put, List.getElem_toArray, List.getElem_cons_zero, List.setIfInBounds_toArray, List.set_cons_zero, List.set_cons_succ]
                  refine wpAnyH_take (i := 1) (oi := _) (v := ?_) rfl (by kernel_rfl) (by kernel_rfl) (by kernel_rfl) (fun _ _ _ h => h) (Or.inl ⟨by rfl, ?_⟩) (by assumption) ?_
                  rotate_left
                  · intro w hSw; go_simp; with_reducible rfl
                  simp only [Act.put, List.getElem_toArray, List.getElem_cons_zero, List.getElem_cons_succ, List.setIfInBounds_toArray, List.set_cons_zero, List.set_cons_succ]
                  refine wpAnyH_take (i := 2) (oi := _) (v := ?_) rfl (by kernel_rfl) (by kernel_rfl) (by kernel_rfl) (fun _ _ _ h => h) (Or.inl ⟨by rfl, ?_⟩) (by assumption) ?_
                  rotate_left
                  · intro w hSw; go_simp; with_reducible rfl
                  simp only [Act.put, List.getElem_toArray, List.getElem_cons_zero, List.getElem_cons_succ, List.setIfInBounds_toArray, List.set_cons_zero, List.set_cons_succ]
                  refine wpAnyH_take (i := 3) (oi := _) (v := ?_) rfl (by kernel_rfl) (by kernel_rfl) (by kernel_rfl) (fun _ _ _ h => h) (Or.inl ⟨by rfl, ?_⟩) (by assumption) ?_
                  rotate_left
                  · intro w hSw; go_simp; with_reducible rfl
                  simp only [Act.put, List.getElem_toArray, List.getElem_cons_zero, List.getElem_cons_succ, List.setIfInBounds_toArray, List.set_cons_zero, List.set_cons_succ]
                  refine wpAnyH_take (i := 4) (oi := _) (v := ?_) rfl (by kernel_rfl) (by kernel_rfl) (by kernel_rfl) (fun _ _ _ h => h) (Or.inl ⟨by rfl, ?_⟩) (by assumption) ?_
                  rotate_left
                  · intro w hSw; go_simp; with_reducible rfl
                  simp only [Act.put, List.getElem_toArray, List.getElem_cons_zero, List.getElem_cons_succ, List.setIfInBounds_toArray, List.set_cons_zero, List.set_cons_succ]
                  refine wpAnyH_take (i := 6) (oi := _) (v := ?_) rfl (by kernel_rfl) (by kernel_rfl) (by kernel_rfl) (fun _ _ _ h => h) (Or.inl ⟨by rfl, ?_⟩) (by assumption) ?_
                  rotate_left
                  · intro w hSw; go_simp; with_reducible rfl
                  simp only [Act.put, List.getElem_toArray, List.getElem_cons_zero, List.getElem_cons_succ, List.setIfInBounds_toArray, List.set_cons_zero, List.set_cons_succ]
                  refine wpAnyH_take (i := 10) (oi := _) (v := ?_) rfl (by kernel_rfl) (by kernel_rfl) (by kernel_rfl) (fun _ _ _ h => h) (Or.inl ⟨by rfl, ?_⟩) (by assumption) ?_
                  rotate_left
                  · intro w hSw; go_simp; with_reducible rfl
                  simp only [Act.put, List.getElem_toArray, List.getElem_cons_zero, List.getElem_cons_succ, List.setIfInBounds_toArray, List.set_cons_zero, List.set_cons_succ]
                  refine wpAnyH_take (i := 12) (oi := _) (v := ?_) rfl (by kernel_rfl) (by kernel_rfl) (by kernel_rfl) (fun _ _ _ h => h) (Or.inl ⟨by rfl, ?_⟩) (by assumption) ?_
                  rotate_left
                  · intro w hSw; go_simp; with_reducible rfl
                  simp only [Act.put, List.getElem_toArray, List.getElem_cons_zero, List.getElem_cons_succ, List.setIfInBounds_toArray, List.set_cons_zero, List.set_cons_succ]
                  refine wpAnyH_take (i := 15) (oi := _) (v := ?_) rfl (by kernel_rfl) (by kernel_rfl) (by kernel_rfl) (fun _ _ _ h => h) (Or.inl ⟨by rfl, ?_⟩) (by assumption) ?_
                  rotate_left
                  · intro w hSw; go_simp; with_reducible rfl
                  simp only [Act.put, List.getElem_toArray, List.getElem_cons_zero, List.getElem_cons_succ, List.setIfInBounds_toArray, List.set_cons_zero, List.set_cons_succ]
                  refine wpAnyH_take (i := 16) (oi := _) (v := ?_) rfl (by kernel_rfl) (by kernel_rfl) (by kernel_rfl) (fun _ _ _ h => h) (Or.inl ⟨by rfl, ?_⟩) (by assumption) ?_
                  rotate_left
                  · intro w hSw; go_simp; with_reducible rfl
                  simp only [Act.put, List.getElem_toArray, List.getElem_cons_zero, List.getElem_cons_succ, List.setIfInBounds_toArray, List.set_cons_zero, List.set_cons_succ]
                  refine wpAnyH_take (i := 17) (oi := _) (v := ?_) rfl (by kernel_rfl) (by kernel_rfl) (by kernel_rfl) (fun _ _ _ h => h) (Or.inl ⟨by rfl, ?_⟩) (by assumption) ?_
                  rotate_left
                  · intro w hSw; go_simp; with_reducible rfl
                  simp only [Act.put, List.getElem_toArray, List.getElem_cons_zero, List.getElem_cons_succ, List.setIfInBounds_toArray, List.set_cons_zero, List.set_cons_succ]
                  refine wpAnyH_take (i := 18) (oi := _) (v := ?_) rfl (by kernel_rfl) (by kernel_rfl) (by kernel_rfl) (fun _ _ _ h => h) (Or.inl ⟨by rfl, ?_⟩) (by assumption) ?_
                  rotate_left
                  · intro w hSw; go_simp; with_reducible rfl
                  simp only [Act.put, List.getElem_toArray, List.getElem_cons_zero, List.getElem_cons_succ, List.setIfInBounds_toArray, List.set_cons_zero, List.set_cons_succ]
                  refine wpAnyH_take (i := 19) (oi := _) (v := ?_) rfl (by kernel_rfl) (by kernel_rfl) (by kernel_rfl) (fun _ _ _ h => h) (Or.inl ⟨by rfl, ?_⟩) (by assumption) ?_
                  rotate_left
                  · intro w hSw; go_simp; with_reducible rfl
                  simp only [Act.put, List.getElem_toArray, List.getElem_cons_zero, List.getElem_cons_succ, List.setIfInBounds_toArray, List.set_cons_zero, List.set_cons_succ]
                  refine wpAnyH_take (i := 20) (oi := _) (v := ?_) rfl (by kernel_rfl) (by kernel_rfl) (by kernel_rfl) (fun _ _ _ h => h) (Or.inl ⟨by rfl, ?_⟩) (by assumption) ?_
                  rotate_left
                  · intro w hSw; go_simp; with_reducible rfl
                  simp only [Act.put, List.getElem_toArray, List.getElem_cons_zero, List.getElem_cons_succ, List.setIfInBounds_toArray, List.set_cons_zero, List.set_cons_succ]
                  refine wpAnyH_take (i := 21) (oi := _) (v := ?_) rfl (by kernel_rfl) (by kernel_rfl) (by kernel_rfl) (fun _ _ _ h => h) (Or.inl ⟨by rfl, ?_⟩) (by assumption) ?_
                  rotate_left
                  · intro w hSw; go_simp; with_reducible rfl
                  simp only [Act.put, List.getElem_toArray, List.getElem_cons_zero, List.getElem_cons_succ, List.setIfInBounds_toArray, List.set_cons_zero, List.set_cons_succ]
                  refine wpAnyH_take (i := 22) (oi := _) (v := ?_) rfl (by kernel_rfl) (by kernel_rfl) (by kernel_rfl) (fun _ _ _ h => h) (Or.inl ⟨by rfl, ?_⟩) (by assumption) ?_
                  rotate_left
                  · intro w hSw; go_simp; with_reducible rfl
                  simp only [Act.put, List.getElem_toArray, List.getElem_cons_zero, List.getElem_cons_succ, List.setIfInBounds_toArray, List.set_cons_zero, List.set_cons_succ]
                  refine wpAnyH_take (i := 23) (oi := _) (v := ?_) rfl (by kernel_rfl) (by kernel_rfl) (by kernel_rfl) (fun _ _ _ h => h) (Or.inl ⟨by rfl, ?_⟩) (by assumption) ?_
                  rotate_left
                  · intro w hSw; go_simp; with_reducible rfl
                  simp only [Act.put, List.getElem_toArray, List.getElem_cons_zero, List.getElem_cons_succ, List.setIfInBounds_toArray, List.set_cons_zero, List.set_cons_succ]
                  refine wpAnyH_take (i := 24) (oi := _) (v := ?_) rfl (by kernel_rfl) (by kernel_rfl) (by kernel_rfl) (fun _ _ _ h => h) (Or.inl ⟨by rfl, ?_⟩) (by assumption) ?_
                  rotate_left
                  · intro w hSw; go_simp; with_reducible rfl
                  simp only [Act.put, List.getElem_toArray, List.getElem_cons_zero, List.getElem_cons_succ, List.setIfInBounds_toArray, List.set_cons_zero, List.set_cons_succ]
                  refine wpAnyH_take (i := 25) (oi := _) (v := ?_) rfl (by kernel_rfl) (by kernel_rfl) (by kernel_rfl) (fun _ _ _ h => h) (Or.inl ⟨by rfl, ?_⟩) (by assumption) ?_
                  rotate_left
                  · intro w hSw; go_simp; with_reducible rfl
                  simp only [Act.put, List.getElem_toArray, List.getElem_cons_zero, List.getElem_cons_succ, List.setIfInBounds_toArray, List.set_cons_zero, List.set_cons_succ]
                  refine wpAnyH_ready (rs := [5, 7, 13]) (by kernel_rfl) (by simp) ?_
                  refine AllReadyH.cons rfl (fun K hK => ?_) ?_
                  · skip
                    go_simp
                    refine (l1Own_any _ (((HS2.out.step (Cls.drew w2))).sees 3 rfl rfl) (by omega)).mono ?_
                    rintro e5 ww2 ⟨vv1, rfl, ho3, hb4⟩
                    obtain ⟨AA5, cc6, hv, _, _, _⟩ := ho3.form
                    subst hv
                    have kk7 := hid (((HS2.out.step (Cls.drew w2))).owns_ (b0 := w0.heap.size) hb4 ho3 (Nat.le_refl _) ((HS2.out.step (Cls.drew w2))).bl.size)
                    clear ho3 hb4
                    go_wp2_with fail
                    refine hK.out _ _ (bxS_of kk7.out 3 2 rfl rfl (by decide)) (fun hHeld => ?_)
                    clear hK K
                    try simp only [Act.put, List.getElem_toArray, List.getElem_cons_zero, List.getElem_cons_succ, List.setIfInBounds_toArray, List.set_cons_zero, List.set_cons_succ]
                    refine wpAnyH_ready (rs := [7, 13]) (by kernel_rfl) (by simp) ?_
                    refine AllReadyH.cons rfl (fun K hK => ?_) ?_
                    · skip
                      have u8 := hid ((kk7.out).blk_ (ww2.heap.size) (by simp) 3 #[.int .i64 (j : Int)])
                      go_simp
                      go_wp2_with fail
                      refine hK.out _ _ (bxS_of u8.out 4 3 rfl rfl (by decide)) (fun hHeld => ?_)
                      clear hK K
                      try simp only [Act.put, List.getElem_toArray, List.getElem_cons_zero, List.getElem_cons_succ, List.setIfInBounds_toArray, List.set_cons_zero, List.set_cons_succ]
                      refine wpAnyH_ready (rs := [8, 13]) (by kernel_rfl) (by simp) ?_
                      refine AllReadyH.cons rfl (fun K hK => ?_) ?_
                      · skip
                        refine step_append_led rfl _ _ 28 rfl (u8.out) 1 rfl Tryz.underlying28 hi hz0 hz1 (by rw [hz2]; decide) rfl rfl rfl (sees_in ((u8.out).get 0 rfl)) (by skip; omega) (u8.out).bl.size ?_
                        intro AA9 cc10 ww11 hh12
                        have kk13 := hid hh12
                        clear hh12
                        refine hK.out _ _ (bxS_of kk13.out 4 3 rfl rfl (by decide)) (fun hHeld => ?_)
                        clear hK K
                        try simp only [Act.put, List.getElem_toArray, List.getElem_cons_zero, List.getElem_cons_succ, List.setIfInBounds_toArray, List.set_cons_zero, List.set_cons_succ]
                        refine wpAnyH_take (i := 9) (oi := _) (v := ?_) rfl (by kernel_rfl) (by kernel_rfl) (by kernel_rfl) (fun _ _ _ h => h) (Or.inl ⟨by rfl, ?_⟩) (by assumption) ?_
                        rotate_left
                        · intro w hSw; go_simp; with_reducible rfl
                        simp only [Act.put, List.getElem_toArray, List.getElem_cons_zero, List.getElem_cons_succ, List.setIfInBounds_toArray, List.set_cons_zero, List.set_cons_succ]
                        refine wpAnyH_ready (rs := [11, 13]) (by kernel_rfl) (by simp) ?_
                        refine AllReadyH.cons rfl (fun K hK => ?_) ?_
                        · skip
                          go_simp
                          refine (l1Own_any _ ((kk13.out).sees 6 rfl (by rw [seenI_len]; exact HIL.out.symm)) (by omega)).mono ?_
                          rintro e5 ww15 ⟨vv14, rfl, ho16, hb17⟩
                          obtain ⟨AA18, cc19, hv, _, _, _⟩ := ho16.form
                          rw [seenI_len, HIL.out] at hv
                          subst hv
                          have kk20 := hid ((kk13.out).owns_ (b0 := w0.heap.size) hb17 ho16 (Nat.le_refl _) (kk13.out).bl.size)
                          clear ho16 hb17
                          go_wp2_with fail
                          refine hK.out _ _ (bxS_of kk20.out 5 4 rfl rfl (by decide)) (fun hHeld => ?_)
                          clear hK K
                          try simp only [Act.put, List.getElem_toArray, List.getElem_cons_zero, List.getElem_cons_succ, List.setIfInBounds_toArray, List.set_cons_zero, List.set_cons_succ]
                          refine wpAnyH_ready (rs := [13]) (by kernel_rfl) (by simp) ?_
                          refine AllReadyH.cons rfl (fun K hK => ?_) AllReadyH.nil
                          have u21 := hid ((kk20.out).blk_ (ww15.heap.size) (by simp) 3 #[.int .i64 (q : Int)])
                          go_simp
                          go_wp2_with fail
                          refine hK.out _ _ (bxS_of u21.out 6 5 rfl rfl (by decide)) (fun hHeld => ?_)
                          clear hK K
                          try simp only [Act.put, List.getElem_toArray, List.getElem_cons_zero, List.getElem_cons_succ, List.setIfInBounds_toArray, List.set_cons_zero, List.set_cons_succ]
                          refine wpAnyH_ready (rs := [14]) (by kernel_rfl) (by simp) ?_
                          refine AllReadyH.cons rfl (fun K hK => ?_) AllReadyH.nil
                          refine step_append_led rfl _ _ 28 rfl (u21.out) 1 rfl Tryz.underlying28 hi hz0 hz1 (by rw [hz2]; decide) rfl rfl rfl (sees_in ((u21.out).get 0 rfl)) (by rw [seenI_len, HIL.out]; omega) (u21.out).bl.size ?_
                          intro AA22 cc23 ww24 hh25
                          rw [seenI_len, HIL.out] at hh25 ⊢
                          have kk26 := hid hh25
                          clear hh25
                          refine hK.out _ _ (bxS_of kk26.out 6 5 rfl rfl (by decide)) (fun hHeld => ?_)
                          clear hK K
                          try simp only [Act.put, List.getElem_toArray, List.getElem_cons_zero, List.getElem_cons_succ, List.setIfInBounds_toArray, List.set_cons_zero, List.set_cons_succ]
                          refine wpAnyH_ready (rs := [26]) (by kernel_rfl) (by simp) ?_
                          refine AllReadyH.cons rfl (fun K hK => ?_) AllReadyH.nil
                          have kk27 := hid (Led.front (P := [_, _, _, _, _, _, _, _, _]) (R := R) kk26.out [3, 1, 4, 5, 6, 7, 8] (by decide) rfl)
                          go_simp
                          refine (HCALL.out _ _ _ _ _ kk27.out).mono ?_
                          rintro e4 w4 ⟨rfl, RV4, h4⟩
                          have H4 := hid h4
                          clear h4
                          go_wp2_with fail
                          refine hK.out _ _ (bxS_of H4.out 2 1 rfl rfl (by decide)) (fun hHeld => ?_)
                          clear hK K
                          try simp only [Act.put, List.getElem_toArray, List.getElem_cons_zero, List.getElem_cons_succ, List.setIfInBounds_toArray, List.set_cons_zero, List.set_cons_succ]
                          refine wpAnyH_done (by kernel_rfl) ?_ _
                          go_wp2
                          refine ⟨⟨j + 1, RV4, by omega, by go_num, HO2, H4⟩, by first | (simp [intOf]; done) | (simp [intOf]; omega)⟩
                        refine AllReadyH.cons rfl (fun K hK => ?_) AllReadyH.nil
                        have u28 := hid ((kk13.out).blk_ (ww11.heap.size) (by simp) 3 #[.int .i64 (q : Int)])
                        go_simp
                        go_wp2_with fail
                        refine hK.out _ _ (bxS_of u28.out 5 4 rfl rfl (by decide)) (fun hHeld => ?_)
                        clear hK K
                        try simp only [Act.put, List.getElem_toArray, List.getElem_cons_zero, List.getElem_cons_succ, List.setIfInBounds_toArray, List.set_cons_zero, List.set_cons_succ]
                        refine wpAnyH_ready (rs := [11]) (by kernel_rfl) (by simp) ?_
                        refine AllReadyH.cons rfl (fun K hK => ?_) AllReadyH.nil
                        go_simp
                        refine (l1Own_any _ ((u28.out).sees 7 rfl (by rw [seenI_len]; exact HIL.out.symm)) (by omega)).mono ?_
                        rintro e5 ww30 ⟨vv29, rfl, ho31, hb32⟩
                        obtain ⟨AA33, cc34, hv, _, _, _⟩ := ho31.form
                        rw [seenI_len, HIL.out] at hv
                        subst hv
                        have kk35 := hid ((u28.out).owns_ (b0 := w0.heap.size) hb32 ho31 (Nat.le_refl _) (u28.out).bl.size)
                        clear ho31 hb32
                        go_wp2_with fail
                        refine hK.out _ _ (bxS_of kk35.out 6 5 rfl rfl (by decide)) (fun hHeld => ?_)
                        clear hK K
                        try simp only [Act.put, List.getElem_toArray, List.getElem_cons_zero, List.getElem_cons_succ, List.setIfInBounds_toArray, List.set_cons_zero, List.set_cons_succ]
                        refine wpAnyH_ready (rs := [14]) (by kernel_rfl) (by simp) ?_
                        refine AllReadyH.cons rfl (fun K hK => ?_) AllReadyH.nil
                        refine step_append_led rfl _ _ 28 rfl (kk35.out) 0 rfl Tryz.underlying28 hi hz0 hz1 (by rw [hz2]; decide) rfl rfl rfl (sees_in ((kk35.out).get 1 rfl)) (by rw [seenI_len, HIL.out]; omega) (kk35.out).bl.size ?_
                        intro AA36 cc37 ww38 hh39
                        rw [seenI_len, HIL.out] at hh39 ⊢
                        have kk40 := hid hh39
                        clear hh39
                        refine hK.out _ _ (bxS_of kk40.out 6 5 rfl rfl (by decide)) (fun hHeld => ?_)
                        clear hK K
                        try simp only [Act.put, List.getElem_toArray, List.getElem_cons_zero, List.getElem_cons_succ, List.setIfInBounds_toArray, List.set_cons_zero, List.set_cons_succ]
                        refine wpAnyH_ready (rs := [26]) (by kernel_rfl) (by simp) ?_
                        refine AllReadyH.cons rfl (fun K hK => ?_) AllReadyH.nil
                        have kk41 := hid (Led.front (P := [_, _, _, _, _, _, _, _, _]) (R := R) kk40.out [3, 0, 4, 5, 6, 7, 8] (by decide) rfl)
                        go_simp
                        refine (HCALL.out _ _ _ _ _ kk41.out).mono ?_
                        rintro e4 w4 ⟨rfl, RV4, h4⟩
                        have H4 := hid h4
                        clear h4
                        go_wp2_with fail
                        refine hK.out _ _ (bxS_of H4.out 2 1 rfl rfl (by decide)) (fun hHeld => ?_)
                        clear hK K
                        try simp only [Act.put, List.getElem_toArray, List.getElem_cons_zero, List.getElem_cons_succ, List.setIfInBounds_toArray, List.set_cons_zero, List.set_cons_succ]
                        refine wpAnyH_done (by kernel_rfl) ?_ _
                        go_wp2
                        refine ⟨⟨j + 1, RV4, by omega, by go_num, HO2, H4⟩, by first | (simp [intOf]; done) | (simp [intOf]; omega)⟩
                      refine AllReadyH.cons rfl (fun K hK => ?_) AllReadyH.nil
                      have u42 := hid ((u8.out).blk_ (ww2.heap.size + 1) (by simp) 3 #[.int .i64 (q : Int)])
                      go_simp
                      go_wp2_with fail
                      refine hK.out _ _ (bxS_of u42.out 5 4 rfl rfl (by decide)) (fun hHeld => ?_)
                      clear hK K
                      try simp only [Act.put, List.getElem_toArray, List.getElem_cons_zero, List.getElem_cons_succ, List.setIfInBounds_toArray, List.set_cons_zero, List.set_cons_succ]
                      refine wpAnyH_ready (rs := [8]) (by kernel_rfl) (by simp) ?_
                      refine AllReadyH.cons rfl (fun K hK => ?_) AllReadyH.nil
                      refine step_append_led rfl _ _ 28 rfl (u42.out) 2 rfl Tryz.underlying28 hi hz0 hz1 (by rw [hz2]; decide) rfl rfl rfl (sees_in ((u42.out).get 1 rfl)) (by skip; omega) (u42.out).bl.size ?_
                      intro AA43 cc44 ww45 hh46
                      have kk47 := hid hh46
                      clear hh46
                      refine hK.out _ _ (bxS_of kk47.out 5 4 rfl rfl (by decide)) (fun hHeld => ?_)
                      clear hK K
                      try simp only [Act.put, List.getElem_toArray, List.getElem_cons_zero, List.getElem_cons_succ, List.setIfInBounds_toArray, List.set_cons_zero, List.set_cons_succ]
                      refine wpAnyH_take (i := 9) (oi := _) (v := ?_) rfl (by kernel_rfl) (by kernel_rfl) (by kernel_rfl) (fun _ _ _ h => h) (Or.inl ⟨by rfl, ?_⟩) (by assumption) ?_
                      rotate_left
                      · intro w hSw; go_simp; with_reducible rfl
                      simp only [Act.put, List.getElem_toArray, List.getElem_cons_zero, List.getElem_cons_succ, List.setIfInBounds_toArray, List.set_cons_zero, List.set_cons_succ]
                      refine wpAnyH_ready (rs := [11]) (by kernel_rfl) (by simp) ?_
                      refine AllReadyH.cons rfl (fun K hK => ?_) AllReadyH.nil
                      go_simp
                      refine (l1Own_any _ ((kk47.out).sees 7 rfl (by rw [seenI_len]; exact HIL.out.symm)) (by omega)).mono ?_
                      rintro e5 ww49 ⟨vv48, rfl, ho50, hb51⟩
                      obtain ⟨AA52, cc53, hv, _, _, _⟩ := ho50.form
                      rw [seenI_len, HIL.out] at hv
                      subst hv
                      have kk54 := hid ((kk47.out).owns_ (b0 := w0.heap.size) hb51 ho50 (Nat.le_refl _) (kk47.out).bl.size)
                      clear ho50 hb51
                      go_wp2_with fail
                      refine hK.out _ _ (bxS_of kk54.out 6 5 rfl rfl (by decide)) (fun hHeld => ?_)
                      clear hK K
                      try simp only [Act.put, List.getElem_toArray, List.getElem_cons_zero, List.getElem_cons_succ, List.setIfInBounds_toArray, List.set_cons_zero, List.set_cons_succ]
                      refine wpAnyH_ready (rs := [14]) (by kernel_rfl) (by simp) ?_
                      refine AllReadyH.cons rfl (fun K hK => ?_) AllReadyH.nil
                      refine step_append_led rfl _ _ 28 rfl (kk54.out) 0 rfl Tryz.underlying28 hi hz0 hz1 (by rw [hz2]; decide) rfl rfl rfl (sees_in ((kk54.out).get 1 rfl)) (by rw [seenI_len, HIL.out]; omega) (kk54.out).bl.size ?_
                      intro AA55 cc56 ww57 hh58
                      rw [seenI_len, HIL.out] at hh58 ⊢
                      have kk59 := hid hh58
                      clear hh58
                      refine hK.out _ _ (bxS_of kk59.out 6 5 rfl rfl (by decide)) (fun hHeld => ?_)
                      clear hK K
                      try simp only [Act.put, List.getElem_toArray, List.getElem_cons_zero, List.getElem_cons_succ, List.setIfInBounds_toArray, List.set_cons_zero, List.set_cons_succ]
                      refine wpAnyH_ready (rs := [26]) (by kernel_rfl) (by simp) ?_
                      refine AllReadyH.cons rfl (fun K hK => ?_) AllReadyH.nil
                      have kk60 := hid (Led.front (P := [_, _, _, _, _, _, _, _, _]) (R := R) kk59.out [3, 0, 4, 5, 6, 7, 8] (by decide) rfl)
                      go_simp
                      refine (HCALL.out _ _ _ _ _ kk60.out).mono ?_
                      rintro e4 w4 ⟨rfl, RV4, h4⟩
                      have H4 := hid h4
                      clear h4
                      go_wp2_with fail
                      refine hK.out _ _ (bxS_of H4.out 2 1 rfl rfl (by decide)) (fun hHeld => ?_)
                      clear hK K
                      try simp only [Act.put, List.getElem_toArray, List.getElem_cons_zero, List.getElem_cons_succ, List.setIfInBounds_toArray, List.set_cons_zero, List.set_cons_succ]
                      refine wpAnyH_done (by kernel_rfl) ?_ _
                      go_wp2
                      refine ⟨⟨j + 1, RV4, by omega, by go_num, HO2, H4⟩, by first | (simp [intOf]; done) | (simp [intOf]; omega)⟩
                    refine AllReadyH.cons rfl (fun K hK => ?_) AllReadyH.nil
                    have u61 := hid ((kk7.out).blk_ (ww2.heap.size) (by simp) 3 #[.int .i64 (q : Int)])
                    go_simp
                    go_wp2_with fail
                    refine hK.out _ _ (bxS_of u61.out 4 3 rfl rfl (by decide)) (fun hHeld => ?_)
                    clear hK K
                    try simp only [Act.put, List.getElem_toArray, List.getElem_cons_zero, List.getElem_cons_succ, List.setIfInBounds_toArray, List.set_cons_zero, List.set_cons_succ]
                    refine wpAnyH_ready (rs := [7]) (by kernel_rfl) (by simp) ?_
                    refine AllReadyH.cons rfl (fun K hK => ?_) AllReadyH.nil
                    have u62 := hid ((u61.out).blk_ (ww2.heap.size + 1) (by simp) 3 #[.int .i64 (j : Int)])
                    go_simp
                    go_wp2_with fail
                    refine hK.out _ _ (bxS_of u62.out 5 4 rfl rfl (by decide)) (fun hHeld => ?_)
                    clear hK K
                    try simp only [Act.put, List.getElem_toArray, List.getElem_cons_zero, List.getElem_cons_succ, List.setIfInBounds_toArray, List.set_cons_zero, List.set_cons_succ]
                    refine wpAnyH_ready (rs := [8]) (by kernel_rfl) (by simp) ?_
                    refine AllReadyH.cons rfl (fun K hK => ?_) AllReadyH.nil
                    refine step_append_led rfl _ _ 28 rfl (u62.out) 2 rfl Tryz.underlying28 hi hz0 hz1 (by rw [hz2]; decide) rfl rfl rfl (sees_in ((u62.out).get 0 rfl)) (by skip; omega) (u62.out).bl.size ?_
                    intro AA63 cc64 ww65 hh66
                    have kk67 := hid hh66
                    clear hh66
                    refine hK.out _ _ (bxS_of kk67.out 5 4 rfl rfl (by decide)) (fun hHeld => ?_)
                    clear hK K
                    try simp only [Act.put, List.getElem_toArray, List.getElem_cons_zero, List.getElem_cons_succ, List.setIfInBounds_toArray, List.set_cons_zero, List.set_cons_succ]
                    refine wpAnyH_take (i := 9) (oi := _) (v := ?_) rfl (by kernel_rfl) (by kernel_rfl) (by kernel_rfl) (fun _ _ _ h => h) (Or.inl ⟨by rfl, ?_⟩) (by assumption) ?_
                    rotate_left
                    · intro w hSw; go_simp; with_reducible rfl
                    simp only [Act.put, List.getElem_toArray, List.getElem_cons_zero, List.getElem_cons_succ, List.setIfInBounds_toArray, List.set_cons_zero, List.set_cons_succ]
                    refine wpAnyH_ready (rs := [11]) (by kernel_rfl) (by simp) ?_
                    refine AllReadyH.cons rfl (fun K hK => ?_) AllReadyH.nil
                    go_simp
                    refine (l1Own_any _ ((kk67.out).sees 7 rfl (by rw [seenI_len]; exact HIL.out.symm)) (by omega)).mono ?_
                    rintro e5 ww69 ⟨vv68, rfl, ho70, hb71⟩
                    obtain ⟨AA72, cc73, hv, _, _, _⟩ := ho70.form
                    rw [seenI_len, HIL.out] at hv
                    subst hv
                    have kk74 := hid ((kk67.out).owns_ (b0 := w0.heap.size) hb71 ho70 (Nat.le_refl _) (kk67.out).bl.size)
                    clear ho70 hb71
                    go_wp2_with fail
                    refine hK.out _ _ (bxS_of kk74.out 6 5 rfl rfl (by decide)) (fun hHeld => ?_)
                    clear hK K
                    try simp only [Act.put, List.getElem_toArray, List.getElem_cons_zero, List.getElem_cons_succ, List.setIfInBounds_toArray, List.set_cons_zero, List.set_cons_succ]
                    refine wpAnyH_ready (rs := [14]) (by kernel_rfl) (by simp) ?_
                    refine AllReadyH.cons rfl (fun K hK => ?_) AllReadyH.nil
                    refine step_append_led rfl _ _ 28 rfl (kk74.out) 0 rfl Tryz.underlying28 hi hz0 hz1 (by rw [hz2]; decide) rfl rfl rfl (sees_in ((kk74.out).get 2 rfl)) (by rw [seenI_len, HIL.out]; omega) (kk74.out).bl.size ?_
                    intro AA75 cc76 ww77 hh78
                    rw [seenI_len, HIL.out] at hh78 ⊢
                    have kk79 := hid hh78
                    clear hh78
                    refine hK.out _ _ (bxS_of kk79.out 6 5 rfl rfl (by decide)) (fun hHeld => ?_)
                    clear hK K
                    try simp only [Act.put, List.getElem_toArray, List.getElem_cons_zero, List.getElem_cons_succ, List.setIfInBounds_toArray, List.set_cons_zero, List.set_cons_succ]
                    refine wpAnyH_ready (rs := [26]) (by kernel_rfl) (by simp) ?_
                    refine AllReadyH.cons rfl (fun K hK => ?_) AllReadyH.nil
                    have kk80 := hid (Led.front (P := [_, _, _, _, _, _, _, _, _]) (R := R) kk79.out [3, 0, 4, 5, 6, 7, 8] (by decide) rfl)
                    go_simp
                    refine (HCALL.out _ _ _ _ _ kk80.out).mono ?_
                    rintro e4 w4 ⟨rfl, RV4, h4⟩
                    have H4 := hid h4
                    clear h4
                    go_wp2_with fail
                    refine hK.out _ _ (bxS_of H4.out 2 1 rfl rfl (by decide)) (fun hHeld => ?_)
                    clear hK K
                    try simp only [Act.put, List.getElem_toArray, List.getElem_cons_zero, List.getElem_cons_succ, List.setIfInBounds_toArray, List.set_cons_zero, List.set_cons_succ]
                    refine wpAnyH_done (by kernel_rfl) ?_ _
                    go_wp2
                    refine ⟨⟨j + 1, RV4, by omega, by go_num, HO2, H4⟩, by first | (simp [intOf]; done) | (simp [intOf]; omega)⟩
                  refine AllReadyH.cons rfl (fun K hK => ?_) ?_
                  · skip
                    have u81 := hid ((HS2.out).blk_ (w2.heap.size) (by simp) 3 #[.int .i64 (j : Int)])
                    have aa82 := hid (u81.out.step (Cls.drew _))
                    go_simp
                    go_wp2_with fail
                    refine hK.out _ _ (bxS_of aa82.out 3 2 rfl rfl (by decide)) (fun hHeld => ?_)
                    clear hK K
                    try simp only [Act.put, List.getElem_toArray, List.getElem_cons_zero, List.getElem_cons_succ, List.setIfInBounds_toArray, List.set_cons_zero, List.set_cons_succ]
                    refine wpAnyH_ready (rs := [5, 13]) (by kernel_rfl) (by simp) ?_
                    refine AllReadyH.cons rfl (fun K hK => ?_) ?_
                    · skip
                      go_simp
                      refine (l1Own_any _ ((aa82.out).sees 4 rfl rfl) (by omega)).mono ?_
                      rintro e5 ww84 ⟨vv83, rfl, ho85, hb86⟩
                      obtain ⟨AA87, cc88, hv, _, _, _⟩ := ho85.form
                      subst hv
                      have kk89 := hid ((aa82.out).owns_ (b0 := w0.heap.size) hb86 ho85 (Nat.le_refl _) (aa82.out).bl.size)
                      clear ho85 hb86
                      go_wp2_with fail
                      refine hK.out _ _ (bxS_of kk89.out 4 3 rfl rfl (by decide)) (fun hHeld => ?_)
                      clear hK K
                      try simp only [Act.put, List.getElem_toArray, List.getElem_cons_zero, List.getElem_cons_succ, List.setIfInBounds_toArray, List.set_cons_zero, List.set_cons_succ]
                      refine wpAnyH_ready (rs := [8, 13]) (by kernel_rfl) (by simp) ?_
                      refine AllReadyH.cons rfl (fun K hK => ?_) ?_
                      · skip
                        refine step_append_led rfl _ _ 28 rfl (kk89.out) 0 rfl Tryz.underlying28 hi hz0 hz1 (by rw [hz2]; decide) rfl rfl rfl (sees_in ((kk89.out).get 1 rfl)) (by skip; omega) (kk89.out).bl.size ?_
                        intro AA90 cc91 ww92 hh93
                        have kk94 := hid hh93
                        clear hh93
                        refine hK.out _ _ (bxS_of kk94.out 4 3 rfl rfl (by decide)) (fun hHeld => ?_)
                        clear hK K
                        try simp only [Act.put, List.getElem_toArray, List.getElem_cons_zero, List.getElem_cons_succ, List.setIfInBounds_toArray, List.set_cons_zero, List.set_cons_succ]
                        refine wpAnyH_take (i := 9) (oi := _) (v := ?_) rfl (by kernel_rfl) (by kernel_rfl) (by kernel_rfl) (fun _ _ _ h => h) (Or.inl ⟨by rfl, ?_⟩) (by assumption) ?_
                        rotate_left
                        · intro w hSw; go_simp; with_reducible rfl
                        simp only [Act.put, List.getElem_toArray, List.getElem_cons_zero, List.getElem_cons_succ, List.setIfInBounds_toArray, List.set_cons_zero, List.set_cons_succ]
                        refine wpAnyH_ready (rs := [11, 13]) (by kernel_rfl) (by simp) ?_
                        refine AllReadyH.cons rfl (fun K hK => ?_) ?_
                        · skip
                          go_simp
                          refine (l1Own_any _ ((kk94.out).sees 6 rfl (by rw [seenI_len]; exact HIL.out.symm)) (by omega)).mono ?_
                          rintro e5 ww96 ⟨vv95, rfl, ho97, hb98⟩
                          obtain ⟨AA99, cc100, hv, _, _, _⟩ := ho97.form
                          rw [seenI_len, HIL.out] at hv
                          subst hv
                          have kk101 := hid ((kk94.out).owns_ (b0 := w0.heap.size) hb98 ho97 (Nat.le_refl _) (kk94.out).bl.size)
                          clear ho97 hb98
                          go_wp2_with fail
                          refine hK.out _ _ (bxS_of kk101.out 5 4 rfl rfl (by decide)) (fun hHeld => ?_)
                          clear hK K
                          try simp only [Act.put, List.getElem_toArray, List.getElem_cons_zero, List.getElem_cons_succ, List.setIfInBounds_toArray, List.set_cons_zero, List.set_cons_succ]
                          refine wpAnyH_ready (rs := [13]) (by kernel_rfl) (by simp) ?_
                          refine AllReadyH.cons rfl (fun K hK => ?_) AllReadyH.nil
                          have u102 := hid ((kk101.out).blk_ (ww96.heap.size) (by simp) 3 #[.int .i64 (q : Int)])
                          go_simp
                          go_wp2_with fail
                          refine hK.out _ _ (bxS_of u102.out 6 5 rfl rfl (by decide)) (fun hHeld => ?_)
                          clear hK K
                          try simp only [Act.put, List.getElem_toArray, List.getElem_cons_zero, List.getElem_cons_succ, List.setIfInBounds_toArray, List.set_cons_zero, List.set_cons_succ]
                          refine wpAnyH_ready (rs := [14]) (by kernel_rfl) (by simp) ?_
                          refine AllReadyH.cons rfl (fun K hK => ?_) AllReadyH.nil
                          refine step_append_led rfl _ _ 28 rfl (u102.out) 1 rfl Tryz.underlying28 hi hz0 hz1 (by rw [hz2]; decide) rfl rfl rfl (sees_in ((u102.out).get 0 rfl)) (by rw [seenI_len, HIL.out]; omega) (u102.out).bl.size ?_
                          intro AA103 cc104 ww105 hh106
                          rw [seenI_len, HIL.out] at hh106 ⊢
                          have kk107 := hid hh106
                          clear hh106
                          refine hK.out _ _ (bxS_of kk107.out 6 5 rfl rfl (by decide)) (fun hHeld => ?_)
                          clear hK K
                          try simp only [Act.put, List.getElem_toArray, List.getElem_cons_zero, List.getElem_cons_succ, List.setIfInBounds_toArray, List.set_cons_zero, List.set_cons_succ]
                          refine wpAnyH_ready (rs := [26]) (by kernel_rfl) (by simp) ?_
                          refine AllReadyH.cons rfl (fun K hK => ?_) AllReadyH.nil
                          have kk108 := hid (Led.front (P := [_, _, _, _, _, _, _, _, _]) (R := R) kk107.out [2, 1, 4, 5, 6, 7, 8] (by decide) rfl)
                          go_simp
                          refine (HCALL.out _ _ _ _ _ kk108.out).mono ?_
                          rintro e4 w4 ⟨rfl, RV4, h4⟩
                          have H4 := hid h4
                          clear h4
                          go_wp2_with fail
                          refine hK.out _ _ (bxS_of H4.out 2 1 rfl rfl (by decide)) (fun hHeld => ?_)
                          clear hK K
                          try simp only [Act.put, List.getElem_toArray, List.getElem_cons_zero, List.getElem_cons_succ, List.setIfInBounds_toArray, List.set_cons_zero, List.set_cons_succ]
                          refine wpAnyH_done (by kernel_rfl) ?_ _
                          go_wp2
                          refine ⟨⟨j + 1, RV4, by omega, by go_num, HO2, H4⟩, by first | (simp [intOf]; done) | (simp [intOf]; omega)⟩
                        refine AllReadyH.cons rfl (fun K hK => ?_) AllReadyH.nil
                        have u109 := hid ((kk94.out).blk_ (ww92.heap.size) (by simp) 3 #[.int .i64 (q : Int)])
                        go_simp
                        go_wp2_with fail
                        refine hK.out _ _ (bxS_of u109.out 5 4 rfl rfl (by decide)) (fun hHeld => ?_)
                        clear hK K
                        try simp only [Act.put, List.getElem_toArray, List.getElem_cons_zero, List.getElem_cons_succ, List.setIfInBounds_toArray, List.set_cons_zero, List.set_cons_succ]
                        refine wpAnyH_ready (rs := [11]) (by kernel_rfl) (by simp) ?_
                        refine AllReadyH.cons rfl (fun K hK => ?_) AllReadyH.nil
                        go_simp
                        refine (l1Own_any _ ((u109.out).sees 7 rfl (by rw [seenI_len]; exact HIL.out.symm)) (by omega)).mono ?_
                        rintro e5 ww111 ⟨vv110, rfl, ho112, hb113⟩
                        obtain ⟨AA114, cc115, hv, _, _, _⟩ := ho112.form
                        rw [seenI_len, HIL.out] at hv
                        subst hv
                        have kk116 := hid ((u109.out).owns_ (b0 := w0.heap.size) hb113 ho112 (Nat.le_refl _) (u109.out).bl.size)
                        clear ho112 hb113
                        go_wp2_with fail
                        refine hK.out _ _ (bxS_of kk116.out 6 5 rfl rfl (by decide)) (fun hHeld => ?_)
                        clear hK K
                        try simp only [Act.put, List.getElem_toArray, List.getElem_cons_zero, List.getElem_cons_succ, List.setIfInBounds_toArray, List.set_cons_zero, List.set_cons_succ]
                        refine wpAnyH_ready (rs := [14]) (by kernel_rfl) (by simp) ?_
                        refine AllReadyH.cons rfl (fun K hK => ?_) AllReadyH.nil
                        refine step_append_led rfl _ _ 28 rfl (kk116.out) 0 rfl Tryz.underlying28 hi hz0 hz1 (by rw [hz2]; decide) rfl rfl rfl (sees_in ((kk116.out).get 1 rfl)) (by rw [seenI_len, HIL.out]; omega) (kk116.out).bl.size ?_
                        intro AA117 cc118 ww119 hh120
                        rw [seenI_len, HIL.out] at hh120 ⊢
                        have kk121 := hid hh120
                        clear hh120
                        refine hK.out _ _ (bxS_of kk121.out 6 5 rfl rfl (by decide)) (fun hHeld => ?_)
                        clear hK K
                        try simp only [Act.put, List.getElem_toArray, List.getElem_cons_zero, List.getElem_cons_succ, List.setIfInBounds_toArray, List.set_cons_zero, List.set_cons_succ]
                        refine wpAnyH_ready (rs := [26]) (by kernel_rfl) (by simp) ?_
                        refine AllReadyH.cons rfl (fun K hK => ?_) AllReadyH.nil
                        have kk122 := hid (Led.front (P := [_, _, _, _, _, _, _, _, _]) (R := R) kk121.out [2, 0, 4, 5, 6, 7, 8] (by decide) rfl)
                        go_simp
                        refine (HCALL.out _ _ _ _ _ kk122.out).mono ?_
                        rintro e4 w4 ⟨rfl, RV4, h4⟩
                        have H4 := hid h4
                        clear h4
                        go_wp2_with fail
                        refine hK.out _ _ (bxS_of H4.out 2 1 rfl rfl (by decide)) (fun hHeld => ?_)
                        clear hK K
                        try simp only [Act.put, List.getElem_toArray, List.getElem_cons_zero, List.getElem_cons_succ, List.setIfInBounds_toArray, List.set_cons_zero, List.set_cons_succ]
                        refine wpAnyH_done (by kernel_rfl) ?_ _
                        go_wp2
                        refine ⟨⟨j + 1, RV4, by omega, by go_num, HO2, H4⟩, by first | (simp [intOf]; done) | (simp [intOf]; omega)⟩
                      refine AllReadyH.cons rfl (fun K hK => ?_) AllReadyH.nil
                      have u123 := hid ((kk89.out).blk_ (ww84.heap.size) (by simp) 3 #[.int .i64 (q : Int)])
                      go_simp
                      go_wp2_with fail
                      refine hK.out _ _ (bxS_of u123.out 5 4 rfl rfl (by decide)) (fun hHeld => ?_)
                      clear hK K
                      try simp only [Act.put, List.getElem_toArray, List.getElem_cons_zero, List.getElem_cons_succ, List.setIfInBounds_toArray, List.set_cons_zero, List.set_cons_succ]
                      refine wpAnyH_ready (rs := [8]) (by kernel_rfl) (by simp) ?_
                      refine AllReadyH.cons rfl (fun K hK => ?_) AllReadyH.nil
                      refine step_append_led rfl _ _ 28 rfl (u123.out) 1 rfl Tryz.underlying28 hi hz0 hz1 (by rw [hz2]; decide) rfl rfl rfl (sees_in ((u123.out).get 2 rfl)) (by skip; omega) (u123.out).bl.size ?_
                      intro AA124 cc125 ww126 hh127
                      have kk128 := hid hh127
                      clear hh127
                      refine hK.out _ _ (bxS_of kk128.out 5 4 rfl rfl (by decide)) (fun hHeld => ?_)
                      clear hK K
                      try simp only [Act.put, List.getElem_toArray, List.getElem_cons_zero, List.getElem_cons_succ, List.setIfInBounds_toArray, List.set_cons_zero, List.set_cons_succ]
                      refine wpAnyH_take (i := 9) (oi := _) (v := ?_) rfl (by kernel_rfl) (by kernel_rfl) (by kernel_rfl) (fun _ _ _ h => h) (Or.inl ⟨by rfl, ?_⟩) (by assumption) ?_
                      rotate_left
                      · intro w hSw; go_simp; with_reducible rfl
                      simp only [Act.put, List.getElem_toArray, List.getElem_cons_zero, List.getElem_cons_succ, List.setIfInBounds_toArray, List.set_cons_zero, List.set_cons_succ]
                      refine wpAnyH_ready (rs := [11]) (by kernel_rfl) (by simp) ?_
                      refine AllReadyH.cons rfl (fun K hK => ?_) AllReadyH.nil
                      go_simp
                      refine (l1Own_any _ ((kk128.out).sees 7 rfl (by rw [seenI_len]; exact HIL.out.symm)) (by omega)).mono ?_
                      rintro e5 ww130 ⟨vv129, rfl, ho131, hb132⟩
                      obtain ⟨AA133, cc134, hv, _, _, _⟩ := ho131.form
                      rw [seenI_len, HIL.out] at hv
                      subst hv
                      have kk135 := hid ((kk128.out).owns_ (b0 := w0.heap.size) hb132 ho131 (Nat.le_refl _) (kk128.out).bl.size)
                      clear ho131 hb132
                      go_wp2_with fail
                      refine hK.out _ _ (bxS_of kk135.out 6 5 rfl rfl (by decide)) (fun hHeld => ?_)
                      clear hK K
                      try simp only [Act.put, List.getElem_toArray, List.getElem_cons_zero, List.getElem_cons_succ, List.setIfInBounds_toArray, List.set_cons_zero, List.set_cons_succ]
                      refine wpAnyH_ready (rs := [14]) (by kernel_rfl) (by simp) ?_
                      refine AllReadyH.cons rfl (fun K hK => ?_) AllReadyH.nil
                      refine step_append_led rfl _ _ 28 rfl (kk135.out) 0 rfl Tryz.underlying28 hi hz0 hz1 (by rw [hz2]; decide) rfl rfl rfl (sees_in ((kk135.out).get 1 rfl)) (by rw [seenI_len, HIL.out]; omega) (kk135.out).bl.size ?_
                      intro AA136 cc137 ww138 hh139
                      rw [seenI_len, HIL.out] at hh139 ⊢
                      have kk140 := hid hh139
                      clear hh139
                      refine hK.out _ _ (bxS_of kk140.out 6 5 rfl rfl (by decide)) (fun hHeld => ?_)
                      clear hK K
                      try simp only [Act.put, List.getElem_toArray, List.getElem_cons_zero, List.getElem_cons_succ, List.setIfInBounds_toArray, List.set_cons_zero, List.set_cons_succ]
                      refine wpAnyH_ready (rs := [26]) (by kernel_rfl) (by simp) ?_
                      refine AllReadyH.cons rfl (fun K hK => ?_) AllReadyH.nil
                      have kk141 := hid (Led.front (P := [_, _, _, _, _, _, _, _, _]) (R := R) kk140.out [2, 0, 4, 5, 6, 7, 8] (by decide) rfl)
                      go_simp
                      refine (HCALL.out _ _ _ _ _ kk141.out).mono ?_
                      rintro e4 w4 ⟨rfl, RV4, h4⟩
                      have H4 := hid h4
                      clear h4
                      go_wp2_with fail
                      refine hK.out _ _ (bxS_of H4.out 2 1 rfl rfl (by decide)) (fun hHeld => ?_)
                      clear hK K
                      try simp only [Act.put, List.getElem_toArray, List.getElem_cons_zero, List.getElem_cons_succ, List.setIfInBounds_toArray, List.set_cons_zero, List.set_cons_succ]
                      refine wpAnyH_done (by kernel_rfl) ?_ _
                      go_wp2
                      refine ⟨⟨j + 1, RV4, by omega, by go_num, HO2, H4⟩, by first | (simp [intOf]; done) | (simp [intOf]; omega)⟩
                    refine AllReadyH.cons rfl (fun K hK => ?_) AllReadyH.nil
                    have u142 := hid ((u81.out).blk_ (w2.heap.size + 1) (by simp) 3 #[.int .i64 (q : Int)])
                    have aa143 := hid (u142.out.step (Cls.drew _))
                    go_simp
                    go_wp2_with fail
                    refine hK.out _ _ (bxS_of aa143.out 4 3 rfl rfl (by decide)) (fun hHeld => ?_)
                    clear hK K
                    try simp only [Act.put, List.getElem_toArray, List.getElem_cons_zero, List.getElem_cons_succ, List.setIfInBounds_toArray, List.set_cons_zero, List.set_cons_succ]
                    refine wpAnyH_ready (rs := [5]) (by kernel_rfl) (by simp) ?_
                    refine AllReadyH.cons rfl (fun K hK => ?_) AllReadyH.nil
                    go_simp
                    refine (l1Own_any _ ((aa143.out).sees 5 rfl rfl) (by omega)).mono ?_
                    rintro e5 ww145 ⟨vv144, rfl, ho146, hb147⟩
                    obtain ⟨AA148, cc149, hv, _, _, _⟩ := ho146.form
                    subst hv
                    have kk150 := hid ((aa143.out).owns_ (b0 := w0.heap.size) hb147 ho146 (Nat.le_refl _) (aa143.out).bl.size)
                    clear ho146 hb147
                    go_wp2_with fail
                    refine hK.out _ _ (bxS_of kk150.out 5 4 rfl rfl (by decide)) (fun hHeld => ?_)
                    clear hK K
                    try simp only [Act.put, List.getElem_toArray, List.getElem_cons_zero, List.getElem_cons_succ, List.setIfInBounds_toArray, List.set_cons_zero, List.set_cons_succ]
                    refine wpAnyH_ready (rs := [8]) (by kernel_rfl) (by simp) ?_
                    refine AllReadyH.cons rfl (fun K hK => ?_) AllReadyH.nil
                    refine step_append_led rfl _ _ 28 rfl (kk150.out) 0 rfl Tryz.underlying28 hi hz0 hz1 (by rw [hz2]; decide) rfl rfl rfl (sees_in ((kk150.out).get 2 rfl)) (by skip; omega) (kk150.out).bl.size ?_
                    intro AA151 cc152 ww153 hh154
                    have kk155 := hid hh154
                    clear hh154
                    refine hK.out _ _ (bxS_of kk155.out 5 4 rfl rfl (by decide)) (fun hHeld => ?_)
                    clear hK K
                    try simp only [Act.put, List.getElem_toArray, List.getElem_cons_zero, List.getElem_cons_succ, List.setIfInBounds_toArray, List.set_cons_zero, List.set_cons_succ]
                    refine wpAnyH_take (i := 9) (oi := _) (v := ?_) rfl (by kernel_rfl) (by kernel_rfl) (by kernel_rfl) (fun _ _ _ h => h) (Or.inl ⟨by rfl, ?_⟩) (by assumption) ?_
                    rotate_left
                    · intro w hSw; go_simp; with_reducible rfl
                    simp only [Act.put, List.getElem_toArray, List.getElem_cons_zero, List.getElem_cons_succ, List.setIfInBounds_toArray, List.set_cons_zero, List.set_cons_succ]
                    refine wpAnyH_ready (rs := [11]) (by kernel_rfl) (by simp) ?_
                    refine AllReadyH.cons rfl (fun K hK => ?_) AllReadyH.nil
                    go_simp
                    refine (l1Own_any _ ((kk155.out).sees 7 rfl (by rw [seenI_len]; exact HIL.out.symm)) (by omega)).mono ?_
                    rintro e5 ww157 ⟨vv156, rfl, ho158, hb159⟩
                    obtain ⟨AA160, cc161, hv, _, _, _⟩ := ho158.form
                    rw [seenI_len, HIL.out] at hv
                    subst hv
                    have kk162 := hid ((kk155.out).owns_ (b0 := w0.heap.size) hb159 ho158 (Nat.le_refl _) (kk155.out).bl.size)
                    clear ho158 hb159
                    go_wp2_with fail
                    refine hK.out _ _ (bxS_of kk162.out 6 5 rfl rfl (by decide)) (fun hHeld => ?_)
                    clear hK K
                    try simp only [Act.put, List.getElem_toArray, List.getElem_cons_zero, List.getElem_cons_succ, List.setIfInBounds_toArray, List.set_cons_zero, List.set_cons_succ]
                    refine wpAnyH_ready (rs := [14]) (by kernel_rfl) (by simp) ?_
                    refine AllReadyH.cons rfl (fun K hK => ?_) AllReadyH.nil
                    refine step_append_led rfl _ _ 28 rfl (kk162.out) 0 rfl Tryz.underlying28 hi hz0 hz1 (by rw [hz2]; decide) rfl rfl rfl (sees_in ((kk162.out).get 2 rfl)) (by rw [seenI_len, HIL.out]; omega) (kk162.out).bl.size ?_
                    intro AA163 cc164 ww165 hh166
                    rw [seenI_len, HIL.out] at hh166 ⊢
                    have kk167 := hid hh166
                    clear hh166
                    refine hK.out _ _ (bxS_of kk167.out 6 5 rfl rfl (by decide)) (fun hHeld => ?_)
                    clear hK K
                    try simp only [Act.put, List.getElem_toArray, List.getElem_cons_zero, List.getElem_cons_succ, List.setIfInBounds_toArray, List.set_cons_zero, List.set_cons_succ]
                    refine wpAnyH_ready (rs := [26]) (by kernel_rfl) (by simp) ?_
                    refine AllReadyH.cons rfl (fun K hK => ?_) AllReadyH.nil
                    have kk168 := hid (Led.front (P := [_, _, _, _, _, _, _, _, _]) (R := R) kk167.out [1, 0, 4, 5, 6, 7, 8] (by decide) rfl)
                    go_simp
                    refine (HCALL.out _ _ _ _ _ kk168.out).mono ?_
                    rintro e4 w4 ⟨rfl, RV4, h4⟩
                    have H4 := hid h4
                    clear h4
                    go_wp2_with fail
                    refine hK.out _ _ (bxS_of H4.out 2 1 rfl rfl (by decide)) (fun hHeld => ?_)
                    clear hK K
                    try simp only [Act.put, List.getElem_toArray, List.getElem_cons_zero, List.getElem_cons_succ, List.setIfInBounds_toArray, List.set_cons_zero, List.set_cons_succ]
                    refine wpAnyH_done (by kernel_rfl) ?_ _
                    go_wp2
                    refine ⟨⟨j + 1, RV4, by omega, by go_num, HO2, H4⟩, by first | (simp [intOf]; done) | (simp [intOf]; omega)⟩
                  refine AllReadyH.cons rfl (fun K hK => ?_) AllReadyH.nil
                  have u169 := hid ((HS2.out).blk_ (w2.heap.size) (by simp) 3 #[.int .i64 (q : Int)])
                  have aa170 := hid (u169.out.step (Cls.drew _))
                  go_simp
                  go_wp2_with fail
                  refine hK.out _ _ (bxS_of aa170.out 3 2 rfl rfl (by decide)) (fun hHeld => ?_)
                  clear hK K
                  try simp only [Act.put, List.getElem_toArray, List.getElem_cons_zero, List.getElem_cons_succ, List.setIfInBounds_toArray, List.set_cons_zero, List.set_cons_succ]
                  refine wpAnyH_ready (rs := [5, 7]) (by kernel_rfl) (by simp) ?_
                  refine AllReadyH.cons rfl (fun K hK => ?_) ?_
                  · skip
                    go_simp
                    refine (l1Own_any _ ((aa170.out).sees 4 rfl rfl) (by omega)).mono ?_
                    rintro e5 ww172 ⟨vv171, rfl, ho173, hb174⟩
                    obtain ⟨AA175, cc176, hv, _, _, _⟩ := ho173.form
                    subst hv
                    have kk177 := hid ((aa170.out).owns_ (b0 := w0.heap.size) hb174 ho173 (Nat.le_refl _) (aa170.out).bl.size)
                    clear ho173 hb174
                    go_wp2_with fail
                    refine hK.out _ _ (bxS_of kk177.out 4 3 rfl rfl (by decide)) (fun hHeld => ?_)
                    clear hK K
                    try simp only [Act.put, List.getElem_toArray, List.getElem_cons_zero, List.getElem_cons_succ, List.setIfInBounds_toArray, List.set_cons_zero, List.set_cons_succ]
                    refine wpAnyH_ready (rs := [7]) (by kernel_rfl) (by simp) ?_
                    refine AllReadyH.cons rfl (fun K hK => ?_) AllReadyH.nil
                    have u178 := hid ((kk177.out).blk_ (ww172.heap.size) (by simp) 3 #[.int .i64 (j : Int)])
                    go_simp
                    go_wp2_with fail
                    refine hK.out _ _ (bxS_of u178.out 5 4 rfl rfl (by decide)) (fun hHeld => ?_)
                    clear hK K
                    try simp only [Act.put, List.getElem_toArray, List.getElem_cons_zero, List.getElem_cons_succ, List.setIfInBounds_toArray, List.set_cons_zero, List.set_cons_succ]
                    refine wpAnyH_ready (rs := [8]) (by kernel_rfl) (by simp) ?_
                    refine AllReadyH.cons rfl (fun K hK => ?_) AllReadyH.nil
                    refine step_append_led rfl _ _ 28 rfl (u178.out) 1 rfl Tryz.underlying28 hi hz0 hz1 (by rw [hz2]; decide) rfl rfl rfl (sees_in ((u178.out).get 0 rfl)) (by skip; omega) (u178.out).bl.size ?_
                    intro AA179 cc180 ww181 hh182
                    have kk183 := hid hh182
                    clear hh182
                    refine hK.out _ _ (bxS_of kk183.out 5 4 rfl rfl (by decide)) (fun hHeld => ?_)
                    clear hK K
                    try simp only [Act.put, List.getElem_toArray, List.getElem_cons_zero, List.getElem_cons_succ, List.setIfInBounds_toArray, List.set_cons_zero, List.set_cons_succ]
                    refine wpAnyH_take (i := 9) (oi := _) (v := ?_) rfl (by kernel_rfl) (by kernel_rfl) (by kernel_rfl) (fun _ _ _ h => h) (Or.inl ⟨by rfl, ?_⟩) (by assumption) ?_
                    rotate_left
                    · intro w hSw; go_simp; with_reducible rfl
                    simp only [Act.put, List.getElem_toArray, List.getElem_cons_zero, List.getElem_cons_succ, List.setIfInBounds_toArray, List.set_cons_zero, List.set_cons_succ]
                    refine wpAnyH_ready (rs := [11]) (by kernel_rfl) (by simp) ?_
                    refine AllReadyH.cons rfl (fun K hK => ?_) AllReadyH.nil
                    go_simp
                    refine (l1Own_any _ ((kk183.out).sees 7 rfl (by rw [seenI_len]; exact HIL.out.symm)) (by omega)).mono ?_
                    rintro e5 ww185 ⟨vv184, rfl, ho186, hb187⟩
                    obtain ⟨AA188, cc189, hv, _, _, _⟩ := ho186.form
                    rw [seenI_len, HIL.out] at hv
                    subst hv
                    have kk190 := hid ((kk183.out).owns_ (b0 := w0.heap.size) hb187 ho186 (Nat.le_refl _) (kk183.out).bl.size)
                    clear ho186 hb187
                    go_wp2_with fail
                    refine hK.out _ _ (bxS_of kk190.out 6 5 rfl rfl (by decide)) (fun hHeld => ?_)
                    clear hK K
                    try simp only [Act.put, List.getElem_toArray, List.getElem_cons_zero, List.getElem_cons_succ, List.setIfInBounds_toArray, List.set_cons_zero, List.set_cons_succ]
                    refine wpAnyH_ready (rs := [14]) (by kernel_rfl) (by simp) ?_
                    refine AllReadyH.cons rfl (fun K hK => ?_) AllReadyH.nil
                    refine step_append_led rfl _ _ 28 rfl (kk190.out) 0 rfl Tryz.underlying28 hi hz0 hz1 (by rw [hz2]; decide) rfl rfl rfl (sees_in ((kk190.out).get 3 rfl)) (by rw [seenI_len, HIL.out]; omega) (kk190.out).bl.size ?_
                    intro AA191 cc192 ww193 hh194
                    rw [seenI_len, HIL.out] at hh194 ⊢
                    have kk195 := hid hh194
                    clear hh194
                    refine hK.out _ _ (bxS_of kk195.out 6 5 rfl rfl (by decide)) (fun hHeld => ?_)
                    clear hK K
                    try simp only [Act.put, List.getElem_toArray, List.getElem_cons_zero, List.getElem_cons_succ, List.setIfInBounds_toArray, List.set_cons_zero, List.set_cons_succ]
                    refine wpAnyH_ready (rs := [26]) (by kernel_rfl) (by simp) ?_
                    refine AllReadyH.cons rfl (fun K hK => ?_) AllReadyH.nil
                    have kk196 := hid (Led.front (P := [_, _, _, _, _, _, _, _, _]) (R := R) kk195.out [2, 0, 4, 5, 6, 7, 8] (by decide) rfl)
                    go_simp
                    refine (HCALL.out _ _ _ _ _ kk196.out).mono ?_
                    rintro e4 w4 ⟨rfl, RV4, h4⟩
                    have H4 := hid h4
                    clear h4
                    go_wp2_with fail
                    refine hK.out _ _ (bxS_of H4.out 2 1 rfl rfl (by decide)) (fun hHeld => ?_)
                    clear hK K
                    try simp only [Act.put, List.getElem_toArray, List.getElem_cons_zero, List.getElem_cons_succ, List.setIfInBounds_toArray, List.set_cons_zero, List.set_cons_succ]
                    refine wpAnyH_done (by kernel_rfl) ?_ _
                    go_wp2
                    refine ⟨⟨j + 1, RV4, by omega, by go_num, HO2, H4⟩, by first | (simp [intOf]; done) | (simp [intOf]; omega)⟩
                  refine AllReadyH.cons rfl (fun K hK => ?_) AllReadyH.nil
                  have u197 := hid ((u169.out).blk_ (w2.heap.size + 1) (by simp) 3 #[.int .i64 (j : Int)])
                  have aa198 := hid (u197.out.step (Cls.drew _))
                  go_simp
                  go_wp2_with fail
                  refine hK.out _ _ (bxS_of aa198.out 4 3 rfl rfl (by decide)) (fun hHeld => ?_)
                  clear hK K
                  try simp only [Act.put, List.getElem_toArray, List.getElem_cons_zero, List.getElem_cons_succ, List.setIfInBounds_toArray, List.set_cons_zero, List.set_cons_succ]
                  refine wpAnyH_ready (rs := [5]) (by kernel_rfl) (by simp) ?_
                  refine AllReadyH.cons rfl (fun K hK => ?_) AllReadyH.nil
                  go_simp
                  refine (l1Own_any _ ((aa198.out).sees 5 rfl rfl) (by omega)).mono ?_
                  rintro e5 ww200 ⟨vv199, rfl, ho201, hb202⟩
                  obtain ⟨AA203, cc204, hv, _, _, _⟩ := ho201.form
                  subst hv
                  have kk205 := hid ((aa198.out).owns_ (b0 := w0.heap.size) hb202 ho201 (Nat.le_refl _) (aa198.out).bl.size)
                  clear ho201 hb202
                  go_wp2_with fail
                  refine hK.out _ _ (bxS_of kk205.out 5 4 rfl rfl (by decide)) (fun hHeld => ?_)
                  clear hK K
                  try simp only [Act.put, List.getElem_toArray, List.getElem_cons_zero, List.getElem_cons_succ, List.setIfInBounds_toArray, List.set_cons_zero, List.set_cons_succ]
                  refine wpAnyH_ready (rs := [8]) (by kernel_rfl) (by simp) ?_
                  refine AllReadyH.cons rfl (fun K hK => ?_) AllReadyH.nil
                  refine step_append_led rfl _ _ 28 rfl (kk205.out) 0 rfl Tryz.underlying28 hi hz0 hz1 (by rw [hz2]; decide) rfl rfl rfl (sees_in ((kk205.out).get 1 rfl)) (by skip; omega) (kk205.out).bl.size ?_
                  intro AA206 cc207 ww208 hh209
                  have kk210 := hid hh209
                  clear hh209
                  refine hK.out _ _ (bxS_of kk210.out 5 4 rfl rfl (by decide)) (fun hHeld => ?_)
                  clear hK K
                  try simp only [Act.put, List.getElem_toArray, List.getElem_cons_zero, List.getElem_cons_succ, List.setIfInBounds_toArray, List.set_cons_zero, List.set_cons_succ]
                  refine wpAnyH_take (i := 9) (oi := _) (v := ?_) rfl (by kernel_rfl) (by kernel_rfl) (by kernel_rfl) (fun _ _ _ h => h) (Or.inl ⟨by rfl, ?_⟩) (by assumption) ?_
                  rotate_left
                  · intro w hSw; go_simp; with_reducible rfl
                  simp only [Act.put, List.getElem_toArray, List.getElem_cons_zero, List.getElem_cons_succ, List.setIfInBounds_toArray, List.set_cons_zero, List.set_cons_succ]
                  refine wpAnyH_ready (rs := [11]) (by kernel_rfl) (by simp) ?_
                  refine AllReadyH.cons rfl (fun K hK => ?_) AllReadyH.nil
                  go_simp
                  refine (l1Own_any _ ((kk210.out).sees 7 rfl (by rw [seenI_len]; exact HIL.out.symm)) (by omega)).mono ?_
                  rintro e5 ww212 ⟨vv211, rfl, ho213, hb214⟩
                  obtain ⟨AA215, cc216, hv, _, _, _⟩ := ho213.form
                  rw [seenI_len, HIL.out] at hv
                  subst hv
                  have kk217 := hid ((kk210.out).owns_ (b0 := w0.heap.size) hb214 ho213 (Nat.le_refl _) (kk210.out).bl.size)
                  clear ho213 hb214
                  go_wp2_with fail
                  refine hK.out _ _ (bxS_of kk217.out 6 5 rfl rfl (by decide)) (fun hHeld => ?_)
                  clear hK K
                  try simp only [Act.put, List.getElem_toArray, List.getElem_cons_zero, List.getElem_cons_succ, List.setIfInBounds_toArray, List.set_cons_zero, List.set_cons_succ]
                  refine wpAnyH_ready (rs := [14]) (by kernel_rfl) (by simp) ?_
                  refine AllReadyH.cons rfl (fun K hK => ?_) AllReadyH.nil
                  refine step_append_led rfl _ _ 28 rfl (kk217.out) 0 rfl Tryz.underlying28 hi hz0 hz1 (by rw [hz2]; decide) rfl rfl rfl (sees_in ((kk217.out).get 3 rfl)) (by rw [seenI_len, HIL.out]; omega) (kk217.out).bl.size ?_
                  intro AA218 cc219 ww220 hh221
                  rw [seenI_len, HIL.out] at hh221 ⊢
                  have kk222 := hid hh221
                  clear hh221
                  refine hK.out _ _ (bxS_of kk222.out 6 5 rfl rfl (by decide)) (fun hHeld => ?_)
                  clear hK K
                  try simp only [Act.put, List.getElem_toArray, List.getElem_cons_zero, List.getElem_cons_succ, List.setIfInBounds_toArray, List.set_cons_zero, List.set_cons_succ]
                  refine wpAnyH_ready (rs := [26]) (by kernel_rfl) (by simp) ?_
                  refine AllReadyH.cons rfl (fun K hK => ?_) AllReadyH.nil
                  have kk223 := hid (Led.front (P := [_, _, _, _, _, _, _, _, _]) (R := R) kk222.out [1, 0, 4, 5, 6, 7, 8] (by decide) rfl)
                  go_simp
                  refine (HCALL.out _ _ _ _ _ kk223.out).mono ?_
                  rintro e4 w4 ⟨rfl, RV4, h4⟩
                  have H4 := hid h4
                  clear h4
                  go_wp2_with fail
                  refine hK.out _ _ (bxS_of H4.out 2 1 rfl rfl (by decide)) (fun hHeld => ?_)
                  clear hK K
                  try simp only [Act.put, List.getElem_toArray, List.getElem_cons_zero, List.getElem_cons_succ, List.setIfInBounds_toArray, List.set_cons_zero, List.set_cons_succ]
                  refine wpAnyH_done (by kernel_rfl) ?_ _
                  go_wp2
                  refine ⟨⟨j + 1, RV4, by omega, by go_num, HO2, H4⟩, by first | (simp [intOf]; done) | (simp [intOf]; omega)⟩
          · have hjm : j = m := by omega
            have HN2 : Hid (bbL (goneF wl) few fs (s : Int) (distL (goneF wl) fs n to) to (k + 1) v seen ids o = o1) := by unfold Hid; rw [HR.out, ← hjm, HJ.out]
            have H9 := hid (Led.front (P := [_, _, _, _, _]) (R := R) HS.out [0, 1] (by decide) rfl)
            subst hjm
            go_wp2
            go_end0
            exact ⟨rfl, _, by rw [HN2.out]; exact H9.out⟩
      clear a1
      have hb1 := HB1.out
      have C0 : ∀ w', Cls (w.alloc (.cells #[.int .i64 (s : Int), .slice B ids.length e] 32)) w' → w'.cell? ⟨gx, 0, none⟩ = some (.slice A n c) := fun _ h => h.cell (H0.out.cell 4 0 rfl rfl)
      have C1 : ∀ w', Cls (w.alloc (.cells #[.int .i64 (s : Int), .slice B ids.length e] 32)) w' → w'.cell? ⟨gx, 1, none⟩ = some (.slice A' m d) := fun _ h => h.cell (H0.out.cell 4 1 rfl rfl)
      have C4 : ∀ w', Cls (w.alloc (.cells #[.int .i64 (s : Int), .slice B ids.length e] 32)) w' → w'.cell? ⟨gx, 4, none⟩ = some (.slice (some ⟨db, dO, none⟩) n cd) := fun _ h => h.cell (H0.out.cell 4 4 rfl rfl)
      have C5 : ∀ w', Cls (w.alloc (.cells #[.int .i64 (s : Int), .slice B ids.length e] 32)) w' → w'.cell? ⟨gx, 5, none⟩ = some (.bool few) := fun _ h => h.cell (H0.out.cell 4 5 rfl rfl)
      have C11 : ∀ w', Cls (w.alloc (.cells #[.int .i64 (s : Int), .slice B ids.length e] 32)) w' → w'.cell? ⟨w.heap.size, 1, none⟩ = some (.slice B ids.length e) := fun _ h => h.cell (H0.out.cell 0 1 rfl rfl)
      have CD : ∀ w', Cls (w.alloc (.cells #[.int .i64 (s : Int), .slice B ids.length e] 32)) w' → w'.cell? ⟨db, dO + v, none⟩ = some (.int .i64 dv) := fun _ h => h.cell (bl_cell H0.out.bl hd0)
      have iv0 : (0 : Int) ≤ (v : Int) := by omega
      have iv1 : (v : Int) < (n : Int) := by omega
      by_cases hd1 : dv < 0
      · have g1 : decide (dv < 0) = true := decide_eq_true hd1
        have HR : Hid (bbL (goneF wl) few fs (s : Int) (distL (goneF wl) fs n to) to (k + 1) v seen ids o = o) := HCUT.out (by
          have : valL (distL (goneF wl) fs n to) v < 0 := by rw [HDV.out]; exact hd1
          cases o with
          | none => exact decide_eq_true this
          | some r => unfold cutR; rw [decide_eq_true this]; rfl)
        clear hloop HCUT HGO
        refine region_cls (by kernel_rfl) (by kernel_rfl) ?_
        simp only [List.append_eq, List.cons_append, List.nil_append]
        repeat (first
          | ((with_reducible refine quiet_pos ?_ (fun K hK => ?_))
             · rfl
             apply Exists.intro
             refine ⟨fun w' hw' => ?_, ?_⟩
             · go_simp
               with_reducible rfl
             simp only [Act.put, List.setIfInBounds_toArray, List.set_cons_zero, List.set_cons_succ]
             refine hK _ ?_; clear hK K)
          | ((with_reducible refine quiet_neg ?_ (fun K hK => ?_))
             · rfl
             simp only [Act.put, List.setIfInBounds_toArray, List.set_cons_zero, List.set_cons_succ]
             refine hK _ ?_; clear hK K))
        with_reducible refine wpQuiet_nil ?_
        intro wz hwz'
        have H9 := hid (Led.front (P := [_, _, _, _, _]) (R := R) (H1.out.step hwz') [0, 1] (by decide) rfl)
        clear H0 H1 hwz' C0 C1 C4 C5 C11 CD
        refine a2 _ _ ?_
        clear a2
        go_wp2_with fail
        exact bodyPost_ret (results_none rfl _ _ _) rfl ⟨rfl, _, by rw [HR.out]; exact H9.out⟩
      · have g1 : decide (dv < 0) = false := decide_eq_false hd1
        have hdn : valL (distL (goneF wl) fs n to) v = dv := HDV.out
        have hdd : decide (valL (distL (goneF wl) fs n to) v < 0) = false := by rw [hdn]; exact g1
        rcases (show o = none ∨ ∃ r, o = some r by cases o; exact .inl rfl; exact .inr ⟨_, rfl⟩) with ho | ⟨r, ho⟩
        · have HNC : Hid (cutR few fs (distL (goneF wl) fs n to) v ids o = false) := by rw [ho]; exact hdd
          have C6 : ∀ w', Cls (w.alloc (.cells #[.int .i64 (s : Int), .slice B ids.length e] 32)) w' → w'.cell? ⟨gx, 6, none⟩ = some (.bool false) := fun _ h => by
            have := h.cell (H0.out.cell 4 6 rfl rfl)
            rw [ho] at this
            exact this
          clear ho hdn hdd HCUT HGO
          refine region_cls (by kernel_rfl) (by kernel_rfl) ?_
          simp only [List.append_eq, List.cons_append, List.nil_append]
          repeat (first
            | ((with_reducible refine quiet_pos ?_ (fun K hK => ?_))
               · rfl
               apply Exists.intro
               refine ⟨fun w' hw' => ?_, ?_⟩
               · go_simp
                 with_reducible rfl
               simp only [Act.put, List.setIfInBounds_toArray, List.set_cons_zero, List.set_cons_succ]
               refine hK _ ?_; clear hK K)
            | ((with_reducible refine quiet_neg ?_ (fun K hK => ?_))
               · rfl
               simp only [Act.put, List.setIfInBounds_toArray, List.set_cons_zero, List.set_cons_succ]
               refine hK _ ?_; clear hK K))
          with_reducible refine wpQuiet_nil ?_
          intro wz hwz'
          have H9 := hid (H1.out.step hwz')
          clear H0 H1 hwz' C0 C1 C4 C5 C6 C11 CD
          refine a2 _ _ ?_
          clear a2
          go_wp2_with fail
          exact hloop _ _ _ _ _ _ _ _ _ _ _ _ _ _ _ _ _ _ _ _ _ _ _ _ _ _ _ _ _ _ _ _ _ _ _ _ _ _ _ _ _ _ _ _ _ _ _ _ _ _ _ _ _ _ _ _ _ _ _ _ _ _ _ _ _ _ _ _ _ _ _ _ _ _ _ _ _ _ _ _ _ _ _ _ _ _ _ _ _ H9 HNC.out
        · have hrok := HOK.out r ho
          have hro : frL o = r := by rw [ho]; rfl
          have hrs : frS o (s : Int) = (s : Int) := by rw [ho]; rfl
          have C6 : ∀ w', Cls (w.alloc (.cells #[.int .i64 (s : Int), .slice B ids.length e] 32)) w' → w'.cell? ⟨gx, 6, none⟩ = some (.bool true) := fun _ h => by
            have := h.cell (H0.out.cell 4 6 rfl rfl)
            rw [ho] at this
            exact this
          have C7 : ∀ w', Cls (w.alloc (.cells #[.int .i64 (s : Int), .slice B ids.length e] 32)) w' → w'.cell? ⟨gx, 7, none⟩ = some (.int .i64 (s : Int)) := fun _ h => by
            have := h.cell (H0.out.cell 4 7 rfl rfl)
            rw [hrs] at this
            exact this
          have C8 : ∀ w', Cls (w.alloc (.cells #[.int .i64 (s : Int), .slice B ids.length e] 32)) w' → w'.cell? ⟨gx, 8, none⟩ = some (.slice RA r.length rc) := fun _ h => by
            have := h.cell (H0.out.cell 4 8 rfl rfl)
            rw [hro] at this
            exact this
          have HLN : Hid (∀ w', Cls (w.alloc (.cells #[.int .i64 (s : Int), .slice B ids.length e] 32)) w' → Calls Tryz.prog 75 #[.agg #[.slice A n c, .slice A' m d], .agg #[.int .i64 (s : Int), .slice RA r.length rc]] w' fun e w2 => e = .returned (.int .i64 (lenR fs r)) ∧ Below w'.heap.size w' w2) := fun w' hw' => by
            have h1 := (H0.out.step hw').sees 3 rfl rfl
            rw [hro] at h1
            exact l4Length_any w' (HN.out.grow (H0.out.step hw').bl) ⟨⟨by rw [← hro]; exact hrc, by omega⟩, h1⟩ hrok.2 (goodB_lens HG.out)
          have iwd : IntKind.i64.wrap (lenR fs ids + dv) = lenR fs ids + dv := IntWalk.i64_in _ (by omega)
          have hcu : cutR few fs (distL (goneF wl) fs n to) v ids o = ((decide (valL (distL (goneF wl) fs n to) v < 0) || (!few && decide (lenR fs r < lenR fs ids + valL (distL (goneF wl) fs n to) v))) || (few && decide (r.length ≤ ids.length))) := by rw [ho]; rfl
          rw [hdd, hdn] at hcu
          clear ho hdn hdd hrs hro
          cases few
          · by_cases hc : lenR fs r < lenR fs ids + dv
            · have g2 : decide (lenR fs r < lenR fs ids + dv) = true := decide_eq_true hc
              have g3 : decide (lenR fs ids + dv > lenR fs r) = true := decide_eq_true hc
              have HR : Hid (bbL (goneF wl) false fs (s : Int) (distL (goneF wl) fs n to) to (k + 1) v seen ids o = o) := HCUT.out (by rw [hcu, g2]; rfl)
              clear hcu hc hloop HCUT HGO
              refine region_cls (by kernel_rfl) (by kernel_rfl) ?_
              simp only [List.append_eq, List.cons_append, List.nil_append]
              repeat (first
                | ((with_reducible refine quiet_pos ?_ (fun K hK => ?_))
                   · rfl
                   apply Exists.intro
                   refine ⟨fun w' hw' => ?_, ?_⟩
                   · go_simp
                     first
                       | with_reducible rfl
                       | go_at_call 75; with_reducible exact hw'.call (HLN.out _ hw')
                   simp only [Act.put, List.setIfInBounds_toArray, List.set_cons_zero, List.set_cons_succ]
                   refine hK _ ?_; clear hK K)
                | ((with_reducible refine quiet_neg ?_ (fun K hK => ?_))
                   · rfl
                   simp only [Act.put, List.setIfInBounds_toArray, List.set_cons_zero, List.set_cons_succ]
                   refine hK _ ?_; clear hK K))
              with_reducible refine wpQuiet_nil ?_
              intro wz hwz'
              have H9 := hid (Led.front (P := [_, _, _, _, _]) (R := R) (H1.out.step hwz') [0, 1] (by decide) rfl)
              clear H0 H1 hwz' C0 C1 C4 C5 C6 C7 C8 C11 CD HLN
              refine a2 _ _ ?_
              clear a2
              go_wp2_with fail
              exact bodyPost_ret (results_none rfl _ _ _) rfl ⟨rfl, _, by rw [HR.out]; exact H9.out⟩
            · have g2 : decide (lenR fs r < lenR fs ids + dv) = false := decide_eq_false hc
              have g3 : decide (lenR fs ids + dv > lenR fs r) = false := decide_eq_false hc
              have HNC : Hid (cutR false fs (distL (goneF wl) fs n to) v ids o = false) := by unfold Hid; rw [hcu, g2]; rfl
              clear hcu hc HCUT HGO
              refine region_cls (by kernel_rfl) (by kernel_rfl) ?_
              simp only [List.append_eq, List.cons_append, List.nil_append]
              repeat (first
                | ((with_reducible refine quiet_pos ?_ (fun K hK => ?_))
                   · rfl
                   apply Exists.intro
                   refine ⟨fun w' hw' => ?_, ?_⟩
                   · go_simp
                     first
                       | with_reducible rfl
                       | go_at_call 75; with_reducible exact hw'.call (HLN.out _ hw')
                   simp only [Act.put, List.setIfInBounds_toArray, List.set_cons_zero, List.set_cons_succ]
                   refine hK _ ?_; clear hK K)
                | ((with_reducible refine quiet_neg ?_ (fun K hK => ?_))
                   · rfl
                   simp only [Act.put, List.setIfInBounds_toArray, List.set_cons_zero, List.set_cons_succ]
                   refine hK _ ?_; clear hK K))
              with_reducible refine wpQuiet_nil ?_
              intro wz hwz'
              have H9 := hid (H1.out.step hwz')
              clear H0 H1 hwz' C0 C1 C4 C5 C6 C7 C8 C11 CD HLN
              refine a2 _ _ ?_
              clear a2
              go_wp2_with fail
              exact hloop _ _ _ _ _ _ _ _ _ _ _ _ _ _ _ _ _ _ _ _ _ _ _ _ _ _ _ _ _ _ _ _ _ _ _ _ _ _ _ _ _ _ _ _ _ _ _ _ _ _ _ _ _ _ _ _ _ _ _ _ _ _ _ _ _ _ _ _ _ _ _ _ _ _ _ _ _ _ _ _ _ _ _ _ _ _ _ _ _ H9 HNC.out
          · by_cases hc : r.length ≤ ids.length
            · have g2 : decide (r.length ≤ ids.length) = true := decide_eq_true hc
              have g3 : decide ((r.length : Int) ≤ (ids.length : Int)) = true := decide_eq_true (by omega)
              have g4 : decide ((ids.length : Int) ≥ (r.length : Int)) = true := decide_eq_true (by omega)
              have HR : Hid (bbL (goneF wl) true fs (s : Int) (distL (goneF wl) fs n to) to (k + 1) v seen ids o = o) := HCUT.out (by rw [hcu, g2]; simp)
              clear hcu hc hloop HCUT HGO
              refine region_cls (by kernel_rfl) (by kernel_rfl) ?_
              simp only [List.append_eq, List.cons_append, List.nil_append]
              repeat (first
                | ((with_reducible refine quiet_pos ?_ (fun K hK => ?_))
                   · rfl
                   apply Exists.intro
                   refine ⟨fun w' hw' => ?_, ?_⟩
                   · go_simp
                     first
                       | with_reducible rfl
                       | go_at_call 75; with_reducible exact hw'.call (HLN.out _ hw')
                   simp only [Act.put, List.setIfInBounds_toArray, List.set_cons_zero, List.set_cons_succ]
                   refine hK _ ?_; clear hK K)
                | ((with_reducible refine quiet_neg ?_ (fun K hK => ?_))
                   · rfl
                   simp only [Act.put, List.setIfInBounds_toArray, List.set_cons_zero, List.set_cons_succ]
                   refine hK _ ?_; clear hK K))
              with_reducible refine wpQuiet_nil ?_
              intro wz hwz'
              have H9 := hid (Led.front (P := [_, _, _, _, _]) (R := R) (H1.out.step hwz') [0, 1] (by decide) rfl)
              clear H0 H1 hwz' C0 C1 C4 C5 C6 C7 C8 C11 CD HLN
              refine a2 _ _ ?_
              clear a2
              go_wp2_with fail
              exact bodyPost_ret (results_none rfl _ _ _) rfl ⟨rfl, _, by rw [HR.out]; exact H9.out⟩
            · have g2 : decide (r.length ≤ ids.length) = false := decide_eq_false hc
              have g3 : decide ((r.length : Int) ≤ (ids.length : Int)) = false := decide_eq_false (by omega)
              have g4 : decide ((ids.length : Int) ≥ (r.length : Int)) = false := decide_eq_false (by omega)
              have HNC : Hid (cutR true fs (distL (goneF wl) fs n to) v ids o = false) := by unfold Hid; rw [hcu, g2]; rfl
              clear hcu hc HCUT HGO
              refine region_cls (by kernel_rfl) (by kernel_rfl) ?_
              simp only [List.append_eq, List.cons_append, List.nil_append]
              repeat (first
                | ((with_reducible refine quiet_pos ?_ (fun K hK => ?_))
                   · rfl
                   apply Exists.intro
                   refine ⟨fun w' hw' => ?_, ?_⟩
                   · go_simp
                     first
                       | with_reducible rfl
                       | go_at_call 75; with_reducible exact hw'.call (HLN.out _ hw')
                   simp only [Act.put, List.setIfInBounds_toArray, List.set_cons_zero, List.set_cons_succ]
                   refine hK _ ?_; clear hK K)
                | ((with_reducible refine quiet_neg ?_ (fun K hK => ?_))
                   · rfl
                   simp only [Act.put, List.setIfInBounds_toArray, List.set_cons_zero, List.set_cons_succ]
                   refine hK _ ?_; clear hK K))
              with_reducible refine wpQuiet_nil ?_
              intro wz hwz'
              have H9 := hid (H1.out.step hwz')
              clear H0 H1 hwz' C0 C1 C4 C5 C6 C7 C8 C11 CD HLN
              refine a2 _ _ ?_
              clear a2
              go_wp2_with fail
              exact hloop _ _ _ _ _ _ _ _ _ _ _ _ _ _ _ _ _ _ _ _ _ _ _ _ _ _ _ _ _ _ _ _ _ _ _ _ _ _ _ _ _ _ _ _ _ _ _ _ _ _ _ _ _ _ _ _ _ _ _ _ _ _ _ _ _ _ _ _ _ _ _ _ _ _ _ _ _ _ _ _ _ _ _ _ _ _ _ _ _ H9 HNC.out
end
end Go.Proofs.YtjfafhehpfjofaaGreat
