/- Lemmas and walks that the claim rests on, laid together. Conditions: none. -/
import Derived.Test.YtmkgicfgcoeilaaDoorZ5afd1fe619f4
import Derived.Test.YtmkgicfgcoeilaaDoorZ39757bbdb7f1
import Derived.Test.YtmkgicfgcoeilaaDoorZ9e85c901efc2
import Derived.Test.YtmkgicfgcoeilaaDoorZ303d8f79b1c4
import Derived.Test.YtmkgicfgcoeilaaDoorZdb50fc3d8a8d
/- The reference's ParseNetwork, walked from its lines on; the two results are one. Conditions: at most 1048576 bytes. -/
namespace Go.Proofs.YtmkgicfgcoeilaaDoor
open Go.RowKit
section
variable {s : ByteArray}
def spnP (s : ByteArray) (w : World) (e : Ending) (w' : World) : Prop := ∃ (A : Option Addr) (n c : Nat) (A2 : Option Addr) (m d : Nat) (xs : List ByteArray) (fs : List Fib) (b : Bool),
  e = .returned (.tuple #[.agg #[.slice A n c, .slice A2 m d], .bool b]) ∧ pnS s = (if b then some (xs, fs) else none) ∧ (b = false → xs = [] ∧ fs = []) ∧ NetIs w' A n c A2 m d xs fs ∧ Below w.heap.size w w'
theorem spnP.no {w w' : World} (h : pnS s = none) (hb : Below w.heap.size w w') : spnP s w (.returned (.tuple #[.agg #[.slice none 0 0, .slice none 0 0], .bool false])) w' :=
  ⟨none, 0, 0, none, 0, 0, [], [], false, rfl, by rw [h]; rfl, fun _ => ⟨rfl, rfl⟩, ⟨⟨Nat.le_refl _, by decide⟩, ⟨Nat.le_refl _, by decide⟩, Sees.nil elStr _ _ _, Sees.nil elFib _ _ _, fun x hx => by cases hx⟩, hb⟩
theorem spnP.yes {w w' : World} {A A2 : Option Addr} {n c m d : Nat} {xs : List ByteArray} {fs : List Fib} (h : pnS s = some (xs, fs)) (hn : NetIs w' A n c A2 m d xs fs) (hb : Below w.heap.size w w') : spnP s w (.returned (.tuple #[.agg #[.slice A n c, .slice A2 m d], .bool true])) w' :=
  ⟨A, n, c, A2, m, d, xs, fs, true, rfl, by rw [h]; rfl, fun h => (by cases h), hn, hb⟩
theorem pnS_no (h : ¬ s.size ≤ 4000) : pnS s = none := by unfold pnS; rw [if_neg h]
theorem pnS_at {LS XS TL : List ByteArray} {l0 : ByteArray} (h : s.size ≤ 4000) (hL : splA s 10 = LS) (h0 : LS[0]? = some l0) (hX : (splA l0 32).drop 1 = XS) (hT : LS.drop 1 = TL) :
    pnS s = match rdLS XS TL with | none => none | some fs => if goodB XS fs = true ∧ netS XS fs = s then some (XS, fs) else none := by
  have e2 : nodesO LS = XS := by
    unfold nodesO
    cases LS with
    | nil => cases h0
    | cons x r => injection h0 with h0; subst h0; exact hX
  unfold pnS
  rw [if_pos h, hL, e2, hT]
  cases rdLS XS TL <;> rfl
theorem pnS_bad {XS TL : List ByteArray} (hp : pnS s = match rdLS XS TL with | none => none | some fs => if goodB XS fs = true ∧ netS XS fs = s then some (XS, fs) else none) (h : ∀ G, rdLS XS TL = some G → goodB XS G = false) : pnS s = none := by
  rw [hp]
  cases hr : rdLS XS TL with
  | none => rfl
  | some G => exact if_neg (fun hc => by rw [h G hr] at hc; cases hc.1)
theorem pnS_ne {XS TL : List ByteArray} {fs : List Fib} (hp : pnS s = match rdLS XS TL with | none => none | some fs => if goodB XS fs = true ∧ netS XS fs = s then some (XS, fs) else none) (h : rdLS XS TL = some fs) (hg : goodB XS fs = true) (h2 : fnS XS fs ≠ s) : pnS s = none := by
  rw [hp, h]
  exact if_neg (fun hc => h2 (by unfold fnS; rw [hg, if_pos rfl]; exact hc.2))
theorem pnS_eq {XS TL : List ByteArray} {fs : List Fib} (hp : pnS s = match rdLS XS TL with | none => none | some fs => if goodB XS fs = true ∧ netS XS fs = s then some (XS, fs) else none) (h : rdLS XS TL = some fs) (hg : goodB XS fs = true) (h2 : fnS XS fs = s) : pnS s = some (XS, fs) := by
  rw [hp, h]
  exact if_pos ⟨hg, by rw [← h2]; unfold fnS; rw [hg, if_pos rfl]⟩
theorem pn_same {xs ys : List ByteArray} {fs gs : List Fib} {b b' : Bool} (h1 : pnS s = (if b then some (xs, fs) else none)) (z1 : b = false → xs = [] ∧ fs = []) (h2 : pnI s = (if b' then some (ys, gs) else none)) (z2 : b' = false → ys = [] ∧ gs = []) : b' = b ∧ ys = xs ∧ gs = fs := by
  rw [pn_one, h1] at h2
  cases b <;> cases b'
  · exact ⟨rfl, by rw [(z1 rfl).1, (z2 rfl).1], by rw [(z1 rfl).2, (z2 rfl).2]⟩
  · simp at h2
  · simp at h2
  · simp at h2
    exact ⟨rfl, h2.1.symm, h2.2.symm⟩
end
set_option maxHeartbeats 2000000 in
set_option maxRecDepth 100000 in
theorem specParseNetwork (s : ByteArray) (w : World) (hs : s.size ≤ 1048576) :
    Calls Tryd.prog 4 #[.string s] w (spnP s w) := by
  have HS := hid ((Led.nil w).blk_ w.heap.size rfl 25 #[.slice none 0 0, .slice none 0 0])
  by_cases h4 : s.size ≤ 4000
  case neg =>
    have hgt : (s.size : Int) > 4000 := by omega
    have y0 := HS.out.cell 0 0 rfl rfl
    have y1 := HS.out.cell 0 1 rfl rfl
    have hno := pnS_no h4
    have HE := hid ((HS.out.set 0 rfl 0 (.slice none 0 0)).set 0 rfl 1 (.slice none 0 0))
    go_enter Tryd.func4, Tryd.ntmps4
    go_wp2_with fail
    first
      | exact bodyPost_ret (v := .tuple #[.agg #[.slice none 0 0, .slice none 0 0], .bool false]) (by simp [results, Tryd.results4, go_sem, y0, y1]) rfl (spnP.no hno HE.out.bl)
      | exact bodyPost_ret (v := .tuple #[.agg #[.slice none 0 0, .slice none 0 0], .bool false]) (by simp [results, Tryd.results4, go_sem, y0, y1]) rfl (spnP.no hno HS.out.bl)

  case pos =>
  have hgt : ¬ (s.size : Int) > 4000 := by omega
  go_enter Tryd.func4, Tryd.ntmps4
  go_wp2_with fail
  refine (l1Split_any s 10 _ (by omega)).mono ?_
  rintro e w1 ⟨v, rfl, ho, hb⟩
  obtain ⟨LS, hLS⟩ : ∃ LS, splA s 10 = LS := ⟨_, rfl⟩
  rw [hLS] at ho
  have hw0 : 0 < LS.length ∧ LS.length ≤ 4001 ∧ ∀ x ∈ LS, x.size ≤ 4000 := by
    rw [← hLS]
    have := splA_len (s := s) (b := 10)
    exact ⟨this.1, by omega, fun x hx => Nat.le_trans (part_sizeU (u := 10) hx) h4⟩
  obtain ⟨hw0, hw1, hwz⟩ := hw0
  obtain ⟨B1, c1, rfl, hc1, _, hsee⟩ := ho.form
  obtain ⟨b1, rfl⟩ : ∃ b1, B1 = some ⟨b1, 0, none⟩ := by
    obtain ⟨g1, c3, hv⟩ := own_split ho rfl hw0
    injection hv with h1 _ _
    exact ⟨g1, h1⟩
  obtain ⟨l0, hl0⟩ := get_of (k := 0) (l := LS) rfl hw0
  have HPN := hid (pnS_at h4 hLS hl0 rfl rfl)
  have H1 := hid (HS.out.step hb)
  obtain ⟨XS, hXS⟩ : ∃ XS, (splA l0 32).drop 1 = XS := ⟨_, rfl⟩
  obtain ⟨TL, hTL⟩ : ∃ TL, LS.drop 1 = TL := ⟨_, rfl⟩
  have HL3 := hid (l3Lines_any (cw := c1) w1 hsee hl0 hw1 hwz hXS hTL)
  rw [hXS, hTL] at HPN
  clear HS ho hb hLS hwz hsee hl0 hXS hTL
  go_wp2_with fail
  refine HL3.out.mono ?_
  rintro e w2 ⟨A, n, c, A2, m, d, t, F, b, B2, k, c2, ws, rfl, hN, hr, hb⟩
  have h2 := (H1.out.join hb).blk_ w2.heap.size rfl 25 #[.slice A n c, .slice A2 m d]
  simp only [List.cons_append, List.nil_append] at h2
  -- ledger: [nbox, F, ws, box]
  have H2 := hid h2
  have HN := hid hN
  clear H1 hb hN HL3 h2
  cases b
  · have hno := pnS_bad HPN.out hr
    have y0 := H2.out.cell 3 0 rfl rfl
    have y1 := H2.out.cell 3 1 rfl rfl
    have z0 := H2.out.frozen 3 0 rfl
    have z1 := H2.out.frozen 3 1 rfl
    have HE := hid ((H2.out.set 3 rfl 0 (.slice none 0 0)).set 3 rfl 1 (.slice none 0 0))
    clear H2 hr
    go_wp2_with fail
    exact bodyPost_ret (v := .tuple #[.agg #[.slice none 0 0, .slice none 0 0], .bool false]) (by simp [results, Tryd.results4, go_sem, y0, y1]) rfl (spnP.no hno HE.out.bl)
  · obtain ⟨hrd, hg⟩ := hr
    have HNA := hid (HN.out _ (H2.out.get 1 rfl) (H2.out.get 2 rfl))
    go_wp2_with fail
    refine (l3Network_any _ HNA.out hg).mono ?_
    rintro e w3 ⟨rfl, hb⟩
    have hS3 := H2.out.step hb
    clear hb H2 HNA
    obtain ⟨tx, htx⟩ : ∃ tx, fnS XS F = tx := ⟨_, rfl⟩
    rw [htx]
    by_cases hte : tx = s
    · have hpn := pnS_eq HPN.out hrd hg (htx.trans hte)
      have he : (tx.toList != s.toList) = false := by rw [hte]; simp
      have he2 : (tx.toList == s.toList) = true := by rw [hte]; exact beq_self_eq_true _
      have q0 := hS3.cell 0 0 rfl rfl
      have q1 := hS3.cell 0 1 rfl rfl
      have y0 := hS3.cell 3 0 rfl rfl
      have y1 := hS3.cell 3 1 rfl rfl
      have z0 := hS3.frozen 3 0 rfl
      have z1 := hS3.frozen 3 1 rfl
      have HE := hid ((hS3.set 3 rfl 0 (.slice A n c)).set 3 rfl 1 (.slice A2 m d))
      have HN4 := hid (HN.out _ (HE.out.get 1 rfl) (HE.out.get 2 rfl))
      clear hS3 htx
      go_wp2_with fail
      exact bodyPost_ret (v := .tuple #[.agg #[.slice A n c, .slice A2 m d], .bool true]) (by simp [results, Tryd.results4, go_sem, y0, y1]) rfl (spnP.yes hpn HN4.out HE.out.bl)
    · have hno := pnS_ne HPN.out hrd hg (fun h => hte (htx.symm.trans h))
      have he := str_ne hte
      have he2 : (tx.toList != s.toList) = true := by rw [bne, he]; rfl
      have y0 := hS3.cell 3 0 rfl rfl
      have y1 := hS3.cell 3 1 rfl rfl
      have z0 := hS3.frozen 3 0 rfl
      have z1 := hS3.frozen 3 1 rfl
      have HE := hid ((hS3.set 3 rfl 0 (.slice none 0 0)).set 3 rfl 1 (.slice none 0 0))
      clear hS3 htx
      go_wp2_with fail
      exact bodyPost_ret (v := .tuple #[.agg #[.slice none 0 0, .slice none 0 0], .bool false]) (by simp [results, Tryd.results4, go_sem, y0, y1]) rfl (spnP.no hno HE.out.bl)
end Go.Proofs.YtmkgicfgcoeilaaDoor
/- The program's ParseNetwork, walked. Conditions: at most 1048576 bytes; the library's tables read as they were laid. By pni.py. -/
namespace Go.Proofs.YtmkgicfgcoeilaaDoor
open Go.RowKit
section
variable {s : ByteArray}
/-- What ParseNetwork gives, by the plain parse of s. -/
def pniP (s : ByteArray) (w : World) (e : Ending) (w' : World) : Prop := ∃ (A1 : Option Addr) (c1 : Nat) (A2 : Option Addr) (c2 : Nat) (xs : List ByteArray) (fs : List Fib) (b : Bool),
  e = .returned (.tuple #[.agg #[.slice A1 xs.length c1, .slice A2 fs.length c2], .bool b]) ∧ pnI s = (if b then some (xs, fs) else none) ∧ (b = false → xs = [] ∧ fs = []) ∧ Led w w' [tOwns elStr w.heap.size 9 (.slice A1 xs.length c1) xs, tOwns elFib w.heap.size 39 (.slice A2 fs.length c2) fs]
theorem pniP.no {w w' : World} (h : pnI s = none) (hb : Below w.heap.size w w') : pniP s w (.returned (.tuple #[.agg #[.slice none 0 0, .slice none 0 0], .bool false])) w' :=
  ⟨none, 0, none, 0, [], [], false, rfl, by rw [h]; rfl, fun _ => ⟨rfl, rfl⟩, (((Led.nil w).step hb).nilS elFib 39 w.heap.size).nilS elStr 9 w.heap.size⟩
theorem pniP.yes {w w' : World} {A1 A2 : Option Addr} {c1 c2 : Nat} {xs : List ByteArray} {fs : List Fib} (h : pnI s = some (xs, fs)) (hb : Led w w' [tOwns elStr w.heap.size 9 (.slice A1 xs.length c1) xs, tOwns elFib w.heap.size 39 (.slice A2 fs.length c2) fs]) : pniP s w (.returned (.tuple #[.agg #[.slice A1 xs.length c1, .slice A2 fs.length c2], .bool true])) w' :=
  ⟨A1, c1, A2, c2, xs, fs, true, rfl, by rw [h]; rfl, fun h => (by cases h), hb⟩
/-- The first two things of a ledger stand, owned from an earlier place on. -/
theorem Led.two {α β : Type} {E : El α} {E' : El β} {w0 w : World} {b : Nat} {e1 e2 : TypeId} {v1 v2 : Value} {l1 : List α} {l2 : List β} {R : List Thing} (hb : w0.heap.size ≤ b) (h : Led w0 w (tOwns E b e1 v1 l1 :: tOwns E' b e2 v2 l2 :: R)) : Led w0 w [tOwns E w0.heap.size e1 v1 l1, tOwns E' w0.heap.size e2 v2 l2] := by
  have h0 := h.all 0 _ rfl
  have h1 := h.all 1 _ rfl
  have k0 : (tOwns E w0.heap.size e1 v1 l1).is w := Owns.base (show Owns E w b e1 v1 l1 from h0.1) hb
  have k1 : (tOwns E' w0.heap.size e2 v2 l2).is w := Owns.base (show Owns E' w b e2 v2 l2 from h1.1) hb
  refine ⟨h.bl, fun i t hi => ?_, fun i j x y hij hx hy => ?_⟩
  · match i, hi with
    | 0, hi => injection hi with hi; subst hi; exact ⟨k0, h0.2⟩
    | 1, hi => injection hi with hi; subst hi; exact ⟨k1, h1.2⟩
    | i + 2, hi => simp at hi
  · match i, j, hx, hy with
    | 0, 0, _, _ => exact absurd rfl hij
    | 1, 1, _, _ => exact absurd rfl hij
    | 0, 1, hx, hy => injection hx with hx; injection hy with hy; subst hx; subst hy; exact h.apart 0 1 (tOwns E b e1 v1 l1) (tOwns E' b e2 v2 l2) (by decide) rfl rfl
    | 1, 0, hx, hy => injection hx with hx; injection hy with hy; subst hx; subst hy; exact h.apart 1 0 (tOwns E' b e2 v2 l2) (tOwns E b e1 v1 l1) (by decide) rfl rfl
    | i + 2, _, hx, _ => simp at hx
    | _, j + 2, _, hy => simp at hy
theorem pniP.yes' {w w' : World} {A1 A2 : Option Addr} {n c1 c2 : Nat} {xs : List ByteArray} {fs : List Fib} (hn : xs.length = n) (h : pnI s = some (xs, fs)) (hb : Led w w' [tOwns elStr w.heap.size 9 (.slice A1 n c1) xs, tOwns elFib w.heap.size 39 (.slice A2 fs.length c2) fs]) : pniP s w (.returned (.tuple #[.agg #[.slice A1 n c1, .slice A2 fs.length c2], .bool true])) w' := by
  subst hn
  exact pniP.yes h hb
theorem pnI_no (h : lnB s = false) : pnI s = none := by
  unfold pnI
  rw [if_neg (fun hc => by rw [lnB_iff.2 hc] at h; cases h)]
theorem pnI_at {LS ws : List ByteArray} {l0 : ByteArray} (h : lnB s = true) (hL : lnO s = LS) (h0 : LS[0]? = some l0) (hw : splA l0 32 = ws) :
    pnI s = match rdLI (ws.drop 1) (LS.drop 1) with | none => none | some fs => if goodB (ws.drop 1) fs = true ∧ netS (ws.drop 1) fs = s then some (ws.drop 1, fs) else none := by
  have e1 : splA (butL s) 10 = LS := by rw [← hL]; unfold lnO; rw [h, if_pos rfl]
  have e2 : nodesO LS = ws.drop 1 := by
    unfold nodesO
    cases LS with
    | nil => cases h0
    | cons x r => injection h0 with h0; subst h0; subst hw; rfl
  unfold pnI
  rw [if_pos (lnB_iff.1 h), e1, e2]
  cases rdLI (ws.drop 1) (LS.drop 1) <;> rfl
theorem pnI_none {xs LS : List ByteArray} (hp : pnI s = match rdLI xs LS with | none => none | some fs => if goodB xs fs = true ∧ netS xs fs = s then some (xs, fs) else none) (h : rdLI xs LS = none) : pnI s = none := by rw [hp, h]
theorem pnI_bad {xs LS : List ByteArray} {fs : List Fib} (hp : pnI s = match rdLI xs LS with | none => none | some fs => if goodB xs fs = true ∧ netS xs fs = s then some (xs, fs) else none) (h : rdLI xs LS = some fs) (h2 : goodB xs fs = false) : pnI s = none := by
  rw [hp, h]
  exact if_neg (fun hc => by rw [hc.1] at h2; cases h2)
theorem pnI_ne {xs LS : List ByteArray} {fs : List Fib} (hp : pnI s = match rdLI xs LS with | none => none | some fs => if goodB xs fs = true ∧ netS xs fs = s then some (xs, fs) else none) (h : rdLI xs LS = some fs) (hg : goodB xs fs = true) (h2 : fnS xs fs ≠ s) : pnI s = none := by
  rw [hp, h]
  exact if_neg (fun hc => h2 (by unfold fnS; rw [hg, if_pos rfl]; exact hc.2))
theorem pnI_eq {xs LS : List ByteArray} {fs : List Fib} (hp : pnI s = match rdLI xs LS with | none => none | some fs => if goodB xs fs = true ∧ netS xs fs = s then some (xs, fs) else none) (h : rdLI xs LS = some fs) (hg : goodB xs fs = true) (h2 : fnS xs fs = s) : pnI s = some (xs, fs) := by
  rw [hp, h]
  exact if_pos ⟨hg, by rw [← h2]; unfold fnS; rw [hg, if_pos rfl]⟩
end
set_option maxHeartbeats 2000000 in
set_option maxRecDepth 100000 in
theorem implParseNetwork (s : ByteArray) (w : World) (ht : Tab w) (he : Sent w) (hm : Mx w) (hs : s.size ≤ 1048576) :
    Calls Tryd.prog 5 #[.string s] w (pniP s w) := by
  have hS := (Led.nil w).blk_ w.heap.size rfl 25 #[.slice none 0 0, .slice none 0 0]
  obtain ⟨i0, hi, hy0, hy1, hy2⟩ := info_parts fib_info
  have HT := hid ht
  have HSE := hid he
  have HM := hid hm
  clear ht he hm
  cases g : lnB s
  · have HLO := hid (linesOf_any s _ (HM.out.on hS.bl) hs)
    rw [g] at HLO
    obtain ⟨LS, hLS⟩ : ∃ LS, lnO s = LS := ⟨_, rfl⟩
    rw [hLS] at HLO
    have HS := hid hS
    clear hS hLS
    go_enter Tryd.func5, Tryd.ntmps5
    go_wp2_with fail
    refine HLO.out.mono ?_
    rintro e w1 ⟨B1, c1, rfl, ho, hb⟩
    have H1 := hid (HS.out.step hb)
    have y0 := H1.out.cell 0 0 rfl rfl
    have y1 := H1.out.cell 0 1 rfl rfl
    have z0 := H1.out.frozen 0 0 rfl
    have z1 := H1.out.frozen 0 1 rfl
    have HE := hid ((H1.out.set 0 rfl 0 (.slice none 0 0)).set 0 rfl 1 (.slice none 0 0))
    clear HS H1 ho hb HLO
    go_wp2_with fail
    exact bodyPost_ret (v := .tuple #[.agg #[.slice none 0 0, .slice none 0 0], .bool false]) (by simp [results, Tryd.results5, go_sem, y0, y1]) rfl (pniP.no (pnI_no g) HE.out.bl)
  · have hb4 := (lnB_iff.1 g).1
    obtain ⟨LS, hLS⟩ : ∃ LS, lnO s = LS := ⟨_, rfl⟩
    have HLS := hid hLS
    have HPS : Hid (0 < LS.length ∧ LS.length ≤ 4001 ∧ ∀ x ∈ LS, x.size ≤ 4000) := by
      rw [← hLS]; unfold lnO; rw [g, if_pos rfl]
      have h1 := splA_len (s := butL s) (b := 10)
      have h2 : (butL s).size ≤ 4000 := by unfold butL; rw [ByteArray.size_extract]; omega
      exact ⟨h1.1, by omega, fun x hx => Nat.le_trans (part_sizeU (u := 10) hx) h2⟩
    obtain ⟨hl0, hl1, hpz⟩ := HPS.out
    have HLO := hid (linesOf_any s _ (HM.out.on hS.bl) hs)
    rw [hLS, g] at HLO
    clear hLS
    go_enter Tryd.func5, Tryd.ntmps5
    go_wp2_with fail
    refine HLO.out.mono ?_
    rintro e w1 ⟨B1, c1, rfl, ho, hb⟩
    have hsee : Sees elStr w1 w1.heap.size B1 LS.length LS := ho.sees
    have hc1 : LS.length ≤ c1 := by obtain ⟨_, _, hv, h1, _, _⟩ := ho.form; injection hv with _ _ h3; omega
    replace hS := hS.owns_ (b0 := w.heap.size) hb ho (Nat.le_refl _) (by simp)
    obtain ⟨b1, rfl⟩ : ∃ b1, B1 = some ⟨b1, 0, none⟩ := by
      obtain ⟨g1, c2, hv⟩ := own_split ho rfl hl0
      injection hv with h1 _ _
      exact ⟨g1, h1⟩
    obtain ⟨l0, hl0'⟩ := get_of (k := 0) (l := LS) rfl hl0
    have HL0 := hid hl0'
    have f0 := hsee.cell hl0' (j := 0) rfl
    simp only [elStr, Nat.mul_one, Nat.add_zero] at f0
    have hz0 : l0.size ≤ 4000 := hpz l0 (List.mem_of_getElem? hl0')
    have HS := hid hS
    clear hS ho hb hsee HLO hpz hl0'
    go_wp2_with fail
    refine (splB_any 32 l0 _ (HM.out.on HS.out.bl) (by omega)).mono ?_
    rintro e w2 ⟨B2, c2, rfl, ho, hb⟩
    have HT32 : Hid ((UInt8.toNat 32 : Int) = 32) := hid rfl
    obtain ⟨ws, hws⟩ : ∃ ws, splA l0 32 = ws := ⟨_, rfl⟩
    rw [HT32.out, hws] at ho
    rw [HT32.out, hws]
    have hw0 : 0 < ws.length ∧ ws.length ≤ 4001 ∧ ∀ x ∈ ws, x.size ≤ 4000 := by
      rw [← hws]
      have := splA_len (s := l0) (b := 32)
      exact ⟨this.1, by omega, fun x hx => Nat.le_trans (part_sizeU (u := 32) hx) hz0⟩
    obtain ⟨hw0, hw1, hwz⟩ := hw0
    have HWZ := hid hwz
    have HPN := hid (pnI_at g HLS.out HL0.out hws)
    have hc2 : ws.length ≤ c2 := by obtain ⟨_, _, hv, h1, _, _⟩ := ho.form; injection hv with _ _ h3; omega
    obtain ⟨b2, rfl⟩ : ∃ b2, B2 = some ⟨b2, 0, none⟩ := by
      obtain ⟨g1, c3, hv⟩ := own_split ho rfl hw0
      injection hv with h1 _ _
      exact ⟨g1, h1⟩
    have hS2 := HS.out.owns_ (b0 := w.heap.size) hb ho (Nat.le_refl _) (HS.out.bl.size)
    have HS2 := hid hS2
    obtain ⟨XS, hXS⟩ : ∃ XS, ws.drop 1 = XS := ⟨_, rfl⟩
    have HXL : Hid (XS.length = ws.length - 1) := by unfold Hid; rw [← hXS, List.length_drop]
    have HXZ : Hid (∀ x ∈ XS, x.size ≤ maxLen) := by unfold Hid; rw [← hXS]; intro x hx; have := hwz x (List.mem_of_mem_drop hx); unfold maxLen; omega
    obtain ⟨TL, hTL⟩ : ∃ TL, LS.drop 1 = TL := ⟨_, rfl⟩
    have HTL : Hid (TL.length = LS.length - 1) := by unfold Hid; rw [← hTL, List.length_drop]
    have HTG : Hid (∀ k, TL[k]? = LS[1 + k]?) := by unfold Hid; intro k; rw [← hTL, List.getElem?_drop]
    have HXS := hid hXS
    rw [hXS, hTL] at HPN
    clear HS ho hb hS2 hws f0 hXS hTL hwz HL0 HLS g hz0
    have HPZ := hid HPS.out.2.2
    clear HPS
    by_cases e2 : c2 = 1
    · skip
      by_cases e1 : c1 = 1
      · skip
        have HNT := hid (fun (wr : World) (hw : Sees elStr wr wr.heap.size (some ⟨b2, 0, none⟩) ws.length ws) => (show Sees elStr wr wr.heap.size (some ⟨b2, 0, none⟩) (ws.length - 1) XS by rw [← HXS.out]; exact tail_sees hw rfl hw0 hc2 (by rw [if_pos e2])))
        skip
        go_wp2_with fail
        have HS3 := hid ((HS2.out.blk_ w2.heap.size rfl 25 #[.slice (some ⟨b2, 0, none⟩) (ws.length - 1) 0, .slice none 0 0]).nilS elFib 39 w.heap.size)
        clear HS2
        go_loopw [30] (fun i wr => ∃ (k : Nat) (vF : Value) (F : List Fib), k ≤ LS.length - 1 ∧ i = .int .i64 k ∧ Hid (runI XS TL k F ∧ F.length = k) ∧ Hid (Led w wr [tOwns elFib w.heap.size 39 vF F, tBlk w2.heap.size 25 #[.slice (some ⟨b2, 0, none⟩) (ws.length - 1) 0, vF], tOwns elStr w.heap.size 9 (.slice (some ⟨b2, 0, none⟩) ws.length c2) ws, tOwns elStr w.heap.size 9 (.slice (some ⟨b1, 0, none⟩) LS.length c1) LS, tBlk w.heap.size 25 #[.slice none 0 0, .slice none 0 0]])) (fun i _ => LS.length - 1 - (intOf i).toNat)
        case atStart => exact ⟨0, _, [], Nat.zero_le _, rfl, hid ⟨runI_zero, rfl⟩, HS3⟩
        case round =>
          clear HS3
          obtain ⟨k, vF, F, hk, rfl, HR, HS⟩ := hrel
          obtain ⟨AF, cF, rfl, hcF⟩ := HS.out.form 0 rfl
          have HFL := hid HR.out.2
          have HN : Hid (NetIs wr (some ⟨b2, 0, none⟩) (ws.length - 1) 0 AF F.length cF XS F) := by
            have h1 := HFL.out
            exact ⟨⟨by omega, by omega⟩, ⟨hcF, by omega⟩, HNT.out _ (HS.out.sees (E := elStr) 2 rfl rfl), HS.out.sees (E := elFib) 0 rfl rfl, HXZ.out⟩
          have q0 := HS.out.cell 1 0 rfl rfl
          have q1 := HS.out.cell 1 1 rfl rfl
          clear hcF
          have hkk : k = LS.length - 1 := by omega
          have hrd : rdLI XS TL = some F := runI_end (by rw [HTL.out, ← hkk]; exact HR.out.1)
          have HRD := hid hrd
          have iz : ¬ ((k : Int) < ((LS.length - 1 : Nat) : Int)) := by omega
          clear hrd hkk
          go_wp2_with fail
          refine (implFormatNetwork _ HN.out (HT.out.on HS.out.bl)).mono ?_
          rintro e w5 ⟨rfl, hb⟩
          have hS5 := HS.out.step hb
          have HN5 := hid (HN.out.grow hb)
          clear hb q0 q1 HS HN
          obtain ⟨tx, htx⟩ : ∃ tx, fnS XS F = tx := ⟨_, rfl⟩
          rw [htx]
          cases hg : goodB XS F
          · have hno := pnI_bad HPN.out HRD.out hg
            have y0 := hS5.cell 4 0 rfl rfl
            have y1 := hS5.cell 4 1 rfl rfl
            have z0 := hS5.frozen 4 0 rfl
            have z1 := hS5.frozen 4 1 rfl
            have HE := hid ((hS5.set 4 rfl 0 (.slice none 0 0)).set 4 rfl 1 (.slice none 0 0))
            clear hS5
            go_wp2_with fail
            exact bodyPost_ret (v := .tuple #[.agg #[.slice none 0 0, .slice none 0 0], .bool false]) (by simp [results, Tryd.results5, go_sem, y0, y1]) rfl (pniP.no hno HE.out.bl)
          · by_cases hte : tx = s
            · have hpn := pnI_eq HPN.out HRD.out hg (htx.trans hte)
              have HPN2 := hid hpn
              have q0 := hS5.cell 1 0 rfl rfl
              have q1 := hS5.cell 1 1 rfl rfl
              have he : (tx.toList != s.toList) = false := by rw [hte]; simp
              have he2 : (tx.toList == s.toList) = true := by rw [hte]; exact beq_self_eq_true _
              have HS5 := hid hS5
              clear hS5 htx hpn
              go_wp2_with fail
              refine (copyNetwork_any _ HN5.out).mono ?_
              rintro e w6 ⟨A1, d1, A2, d2, rfl, hL⟩
              have hS6 := HS5.out.join hL
              simp only [List.cons_append, List.nil_append] at hS6
              have y0 := hS6.cell 6 0 rfl rfl
              have y1 := hS6.cell 6 1 rfl rfl
              have z0 := hS6.frozen 6 0 rfl
              have z1 := hS6.frozen 6 1 rfl
              have hS7 := (hS6.set 6 rfl 0 (.slice A1 (ws.length - 1) d1)).set 6 rfl 1 (.slice A2 F.length d2)
              have hbz := HS5.out.bl.size
              have HL7 := hid (Led.two hbz hS7)
              clear hS6 hL q0 q1 hS7 HS5
              go_wp2_with fail
              exact bodyPost_ret (v := .tuple #[.agg #[.slice A1 (ws.length - 1) d1, .slice A2 F.length d2], .bool true]) (by simp [results, Tryd.results5, go_sem, y0, y1]) rfl (pniP.yes' HXL.out HPN2.out HL7.out)
            · have hno := pnI_ne HPN.out HRD.out hg (fun h => hte (htx.symm.trans h))
              have he := str_ne hte
              have he2 : (tx.toList != s.toList) = true := by rw [bne, he]; rfl
              clear htx
              have y0 := hS5.cell 4 0 rfl rfl
              have y1 := hS5.cell 4 1 rfl rfl
              have z0 := hS5.frozen 4 0 rfl
              have z1 := hS5.frozen 4 1 rfl
              have HE := hid ((hS5.set 4 rfl 0 (.slice none 0 0)).set 4 rfl 1 (.slice none 0 0))
              clear hS5
              go_wp2_with fail
              exact bodyPost_ret (v := .tuple #[.agg #[.slice none 0 0, .slice none 0 0], .bool false]) (by simp [results, Tryd.results5, go_sem, y0, y1]) rfl (pniP.no hno HE.out.bl)
      · skip
        have HNT := hid (fun (wr : World) (hw : Sees elStr wr wr.heap.size (some ⟨b2, 0, none⟩) ws.length ws) => (show Sees elStr wr wr.heap.size (some ⟨b2, 0, none⟩) (ws.length - 1) XS by rw [← HXS.out]; exact tail_sees hw rfl hw0 hc2 (by rw [if_pos e2])))
        skip
        go_wp2_with fail
        have HS3 := hid ((HS2.out.blk_ w2.heap.size rfl 25 #[.slice (some ⟨b2, 0, none⟩) (ws.length - 1) 0, .slice none 0 0]).nilS elFib 39 w.heap.size)
        clear HS2
        go_loopw [30] (fun i wr => ∃ (k : Nat) (vF : Value) (F : List Fib), k ≤ LS.length - 1 ∧ i = .int .i64 k ∧ Hid (runI XS TL k F ∧ F.length = k) ∧ Hid (Led w wr [tOwns elFib w.heap.size 39 vF F, tBlk w2.heap.size 25 #[.slice (some ⟨b2, 0, none⟩) (ws.length - 1) 0, vF], tOwns elStr w.heap.size 9 (.slice (some ⟨b2, 0, none⟩) ws.length c2) ws, tOwns elStr w.heap.size 9 (.slice (some ⟨b1, 0, none⟩) LS.length c1) LS, tBlk w.heap.size 25 #[.slice none 0 0, .slice none 0 0]])) (fun i _ => LS.length - 1 - (intOf i).toNat)
        case atStart => exact ⟨0, _, [], Nat.zero_le _, rfl, hid ⟨runI_zero, rfl⟩, HS3⟩
        case round =>
          clear HS3
          obtain ⟨k, vF, F, hk, rfl, HR, HS⟩ := hrel
          obtain ⟨AF, cF, rfl, hcF⟩ := HS.out.form 0 rfl
          have HFL := hid HR.out.2
          have HN : Hid (NetIs wr (some ⟨b2, 0, none⟩) (ws.length - 1) 0 AF F.length cF XS F) := by
            have h1 := HFL.out
            exact ⟨⟨by omega, by omega⟩, ⟨hcF, by omega⟩, HNT.out _ (HS.out.sees (E := elStr) 2 rfl rfl), HS.out.sees (E := elFib) 0 rfl rfl, HXZ.out⟩
          have q0 := HS.out.cell 1 0 rfl rfl
          have q1 := HS.out.cell 1 1 rfl rfl
          clear hcF
          by_cases hlt : k < LS.length - 1
          · obtain ⟨x, hx⟩ := get_of (k := 1 + k) (l := LS) rfl (by omega)
            have f1 := (HS.out.sees (E := elStr) 3 rfl rfl).cell hx (j := 0) rfl
            simp only [elStr, Nat.mul_one, Nat.add_zero, Nat.zero_add] at f1
            have hxs := HPZ.out x (List.mem_of_getElem? hx)
            have HX : Hid (TL[k]? = some x) := by unfold Hid; rw [HTG.out]; exact hx
            have iz : (k : Int) < ((LS.length - 1 : Nat) : Int) := by omega
            clear hx
            go_wp2_with fail
            refine (readFiber_any x _ HN.out (HT.out.on HS.out.bl) (HSE.out.on HS.out.bl) (HM.out.on HS.out.bl) hxs).mono ?_
            rintro e w4 ⟨f, b, rfl, hf, hb⟩
            have hS4a := HS.out.step hb
            have hS4 := hS4a.blk_ w4.heap.size rfl 39 #[.int .i64 f.a, .int .i64 f.b, .int .i64 f.len, .int .i64 f.risk]
            clear hS4a hb f1 q0 q1 HS HN
            cases b
            · have hno := runI_none HR.out.1 HX.out hf
              have y0 := hS4.cell 5 0 rfl rfl
              have y1 := hS4.cell 5 1 rfl rfl
              have z0 := hS4.frozen 5 0 rfl
              have z1 := hS4.frozen 5 1 rfl
              have HE := hid ((hS4.set 5 rfl 0 (.slice none 0 0)).set 5 rfl 1 (.slice none 0 0))
              clear hS4
              go_wp2_with fail
              exact bodyPost_ret (v := .tuple #[.agg #[.slice none 0 0, .slice none 0 0], .bool false]) (by simp [results, Tryd.results5, go_sem, y0, y1]) rfl (pniP.no (pnI_none HPN.out hno) HE.out.bl)
            · have HR2 := hid (runI_succ HR.out.1 HX.out hf)
              have p3 := hS4.cell 2 1 rfl rfl
              have HS5 := hid (hS4.blk_ (w4.heap.size + 1) (by simp) 39 #[.int .i64 f.a, .int .i64 f.b, .int .i64 f.len, .int .i64 f.risk])
              clear hS4 hf
              have hF1 : F.length ≤ 4001 := by have := HFL.out; omega
              go_wp2_with (first
                | (at_builtin; refine wpList_append_led rfl _ _ 23 rfl HS5.out 2 rfl Tryd.underlying23 hi hy0 hy1 (by rw [hy2]; decide) rfl rfl rfl (show Sees elFib _ _ _ 1 [f] from sees_new elFib _ f _ _ (by simp)) (by omega) HS5.out.bl.size ?_)
                | go_in)
              intro A2 c3 w7 hS5
              have p5 := hS5.cell 3 1 rfl rfl
              have z5 := hS5.frozen 3 1 rfl
              have HS6 := hid ((hS5.set 3 rfl 1 (.slice A2 (F.length + 1) c3)).drop 2)
              clear HS5 hS5 p3 hF1
              go_wp2
              go_roundw
              case rel => exact ⟨k + 1, .slice A2 (F.length + 1) c3, F ++ [f], by omega, by go_num, hid ⟨HR2.out, by rw [List.length_append, HFL.out]; rfl⟩, by first | exact HS6 | (rw [e2]; exact HS6)⟩
              case measure => simp [intOf]; omega
          · skip
            have hkk : k = LS.length - 1 := by omega
            have hrd : rdLI XS TL = some F := runI_end (by rw [HTL.out, ← hkk]; exact HR.out.1)
            have HRD := hid hrd
            have iz : ¬ ((k : Int) < ((LS.length - 1 : Nat) : Int)) := by omega
            clear hrd hkk
            go_wp2_with fail
            refine (implFormatNetwork _ HN.out (HT.out.on HS.out.bl)).mono ?_
            rintro e w5 ⟨rfl, hb⟩
            have hS5 := HS.out.step hb
            have HN5 := hid (HN.out.grow hb)
            clear hb q0 q1 HS HN
            obtain ⟨tx, htx⟩ : ∃ tx, fnS XS F = tx := ⟨_, rfl⟩
            rw [htx]
            cases hg : goodB XS F
            · have hno := pnI_bad HPN.out HRD.out hg
              have y0 := hS5.cell 4 0 rfl rfl
              have y1 := hS5.cell 4 1 rfl rfl
              have z0 := hS5.frozen 4 0 rfl
              have z1 := hS5.frozen 4 1 rfl
              have HE := hid ((hS5.set 4 rfl 0 (.slice none 0 0)).set 4 rfl 1 (.slice none 0 0))
              clear hS5
              go_wp2_with fail
              exact bodyPost_ret (v := .tuple #[.agg #[.slice none 0 0, .slice none 0 0], .bool false]) (by simp [results, Tryd.results5, go_sem, y0, y1]) rfl (pniP.no hno HE.out.bl)
            · by_cases hte : tx = s
              · have hpn := pnI_eq HPN.out HRD.out hg (htx.trans hte)
                have HPN2 := hid hpn
                have q0 := hS5.cell 1 0 rfl rfl
                have q1 := hS5.cell 1 1 rfl rfl
                have he : (tx.toList != s.toList) = false := by rw [hte]; simp
                have he2 : (tx.toList == s.toList) = true := by rw [hte]; exact beq_self_eq_true _
                have HS5 := hid hS5
                clear hS5 htx hpn
                go_wp2_with fail
                refine (copyNetwork_any _ HN5.out).mono ?_
                rintro e w6 ⟨A1, d1, A2, d2, rfl, hL⟩
                have hS6 := HS5.out.join hL
                simp only [List.cons_append, List.nil_append] at hS6
                have y0 := hS6.cell 6 0 rfl rfl
                have y1 := hS6.cell 6 1 rfl rfl
                have z0 := hS6.frozen 6 0 rfl
                have z1 := hS6.frozen 6 1 rfl
                have hS7 := (hS6.set 6 rfl 0 (.slice A1 (ws.length - 1) d1)).set 6 rfl 1 (.slice A2 F.length d2)
                have hbz := HS5.out.bl.size
                have HL7 := hid (Led.two hbz hS7)
                clear hS6 hL q0 q1 hS7 HS5
                go_wp2_with fail
                exact bodyPost_ret (v := .tuple #[.agg #[.slice A1 (ws.length - 1) d1, .slice A2 F.length d2], .bool true]) (by simp [results, Tryd.results5, go_sem, y0, y1]) rfl (pniP.yes' HXL.out HPN2.out HL7.out)
              · have hno := pnI_ne HPN.out HRD.out hg (fun h => hte (htx.symm.trans h))
                have he := str_ne hte
                have he2 : (tx.toList != s.toList) = true := by rw [bne, he]; rfl
                clear htx
                have y0 := hS5.cell 4 0 rfl rfl
                have y1 := hS5.cell 4 1 rfl rfl
                have z0 := hS5.frozen 4 0 rfl
                have z1 := hS5.frozen 4 1 rfl
                have HE := hid ((hS5.set 4 rfl 0 (.slice none 0 0)).set 4 rfl 1 (.slice none 0 0))
                clear hS5
                go_wp2_with fail
                exact bodyPost_ret (v := .tuple #[.agg #[.slice none 0 0, .slice none 0 0], .bool false]) (by simp [results, Tryd.results5, go_sem, y0, y1]) rfl (pniP.no hno HE.out.bl)
    · skip
      by_cases e1 : c1 = 1
      · skip
        have HNT := hid (fun (wr : World) (hw : Sees elStr wr wr.heap.size (some ⟨b2, 0, none⟩) ws.length ws) => (show Sees elStr wr wr.heap.size (some ⟨b2, 1, none⟩) (ws.length - 1) XS by rw [← HXS.out]; exact tail_sees hw rfl hw0 hc2 (by rw [if_neg e2])))
        skip
        go_wp2_with fail
        have HS3 := hid ((HS2.out.blk_ w2.heap.size rfl 25 #[.slice (some ⟨b2, 1, none⟩) (ws.length - 1) (c2 - 1), .slice none 0 0]).nilS elFib 39 w.heap.size)
        clear HS2
        go_loopw [30] (fun i wr => ∃ (k : Nat) (vF : Value) (F : List Fib), k ≤ LS.length - 1 ∧ i = .int .i64 k ∧ Hid (runI XS TL k F ∧ F.length = k) ∧ Hid (Led w wr [tOwns elFib w.heap.size 39 vF F, tBlk w2.heap.size 25 #[.slice (some ⟨b2, 1, none⟩) (ws.length - 1) (c2 - 1), vF], tOwns elStr w.heap.size 9 (.slice (some ⟨b2, 0, none⟩) ws.length c2) ws, tOwns elStr w.heap.size 9 (.slice (some ⟨b1, 0, none⟩) LS.length c1) LS, tBlk w.heap.size 25 #[.slice none 0 0, .slice none 0 0]])) (fun i _ => LS.length - 1 - (intOf i).toNat)
        case atStart => exact ⟨0, _, [], Nat.zero_le _, rfl, hid ⟨runI_zero, rfl⟩, HS3⟩
        case round =>
          clear HS3
          obtain ⟨k, vF, F, hk, rfl, HR, HS⟩ := hrel
          obtain ⟨AF, cF, rfl, hcF⟩ := HS.out.form 0 rfl
          have HFL := hid HR.out.2
          have HN : Hid (NetIs wr (some ⟨b2, 1, none⟩) (ws.length - 1) (c2 - 1) AF F.length cF XS F) := by
            have h1 := HFL.out
            exact ⟨⟨by omega, by omega⟩, ⟨hcF, by omega⟩, HNT.out _ (HS.out.sees (E := elStr) 2 rfl rfl), HS.out.sees (E := elFib) 0 rfl rfl, HXZ.out⟩
          have q0 := HS.out.cell 1 0 rfl rfl
          have q1 := HS.out.cell 1 1 rfl rfl
          clear hcF
          have hkk : k = LS.length - 1 := by omega
          have hrd : rdLI XS TL = some F := runI_end (by rw [HTL.out, ← hkk]; exact HR.out.1)
          have HRD := hid hrd
          have iz : ¬ ((k : Int) < ((LS.length - 1 : Nat) : Int)) := by omega
          clear hrd hkk
          go_wp2_with fail
          refine (implFormatNetwork _ HN.out (HT.out.on HS.out.bl)).mono ?_
          rintro e w5 ⟨rfl, hb⟩
          have hS5 := HS.out.step hb
          have HN5 := hid (HN.out.grow hb)
          clear hb q0 q1 HS HN
          obtain ⟨tx, htx⟩ : ∃ tx, fnS XS F = tx := ⟨_, rfl⟩
          rw [htx]
          cases hg : goodB XS F
          · have hno := pnI_bad HPN.out HRD.out hg
            have y0 := hS5.cell 4 0 rfl rfl
            have y1 := hS5.cell 4 1 rfl rfl
            have z0 := hS5.frozen 4 0 rfl
            have z1 := hS5.frozen 4 1 rfl
            have HE := hid ((hS5.set 4 rfl 0 (.slice none 0 0)).set 4 rfl 1 (.slice none 0 0))
            clear hS5
            go_wp2_with fail
            exact bodyPost_ret (v := .tuple #[.agg #[.slice none 0 0, .slice none 0 0], .bool false]) (by simp [results, Tryd.results5, go_sem, y0, y1]) rfl (pniP.no hno HE.out.bl)
          · by_cases hte : tx = s
            · have hpn := pnI_eq HPN.out HRD.out hg (htx.trans hte)
              have HPN2 := hid hpn
              have q0 := hS5.cell 1 0 rfl rfl
              have q1 := hS5.cell 1 1 rfl rfl
              have he : (tx.toList != s.toList) = false := by rw [hte]; simp
              have he2 : (tx.toList == s.toList) = true := by rw [hte]; exact beq_self_eq_true _
              have HS5 := hid hS5
              clear hS5 htx hpn
              go_wp2_with fail
              refine (copyNetwork_any _ HN5.out).mono ?_
              rintro e w6 ⟨A1, d1, A2, d2, rfl, hL⟩
              have hS6 := HS5.out.join hL
              simp only [List.cons_append, List.nil_append] at hS6
              have y0 := hS6.cell 6 0 rfl rfl
              have y1 := hS6.cell 6 1 rfl rfl
              have z0 := hS6.frozen 6 0 rfl
              have z1 := hS6.frozen 6 1 rfl
              have hS7 := (hS6.set 6 rfl 0 (.slice A1 (ws.length - 1) d1)).set 6 rfl 1 (.slice A2 F.length d2)
              have hbz := HS5.out.bl.size
              have HL7 := hid (Led.two hbz hS7)
              clear hS6 hL q0 q1 hS7 HS5
              go_wp2_with fail
              exact bodyPost_ret (v := .tuple #[.agg #[.slice A1 (ws.length - 1) d1, .slice A2 F.length d2], .bool true]) (by simp [results, Tryd.results5, go_sem, y0, y1]) rfl (pniP.yes' HXL.out HPN2.out HL7.out)
            · have hno := pnI_ne HPN.out HRD.out hg (fun h => hte (htx.symm.trans h))
              have he := str_ne hte
              have he2 : (tx.toList != s.toList) = true := by rw [bne, he]; rfl
              clear htx
              have y0 := hS5.cell 4 0 rfl rfl
              have y1 := hS5.cell 4 1 rfl rfl
              have z0 := hS5.frozen 4 0 rfl
              have z1 := hS5.frozen 4 1 rfl
              have HE := hid ((hS5.set 4 rfl 0 (.slice none 0 0)).set 4 rfl 1 (.slice none 0 0))
              clear hS5
              go_wp2_with fail
              exact bodyPost_ret (v := .tuple #[.agg #[.slice none 0 0, .slice none 0 0], .bool false]) (by simp [results, Tryd.results5, go_sem, y0, y1]) rfl (pniP.no hno HE.out.bl)
      · skip
        have HNT := hid (fun (wr : World) (hw : Sees elStr wr wr.heap.size (some ⟨b2, 0, none⟩) ws.length ws) => (show Sees elStr wr wr.heap.size (some ⟨b2, 1, none⟩) (ws.length - 1) XS by rw [← HXS.out]; exact tail_sees hw rfl hw0 hc2 (by rw [if_neg e2])))
        skip
        go_wp2_with fail
        have HS3 := hid ((HS2.out.blk_ w2.heap.size rfl 25 #[.slice (some ⟨b2, 1, none⟩) (ws.length - 1) (c2 - 1), .slice none 0 0]).nilS elFib 39 w.heap.size)
        clear HS2
        go_loopw [30] (fun i wr => ∃ (k : Nat) (vF : Value) (F : List Fib), k ≤ LS.length - 1 ∧ i = .int .i64 k ∧ Hid (runI XS TL k F ∧ F.length = k) ∧ Hid (Led w wr [tOwns elFib w.heap.size 39 vF F, tBlk w2.heap.size 25 #[.slice (some ⟨b2, 1, none⟩) (ws.length - 1) (c2 - 1), vF], tOwns elStr w.heap.size 9 (.slice (some ⟨b2, 0, none⟩) ws.length c2) ws, tOwns elStr w.heap.size 9 (.slice (some ⟨b1, 0, none⟩) LS.length c1) LS, tBlk w.heap.size 25 #[.slice none 0 0, .slice none 0 0]])) (fun i _ => LS.length - 1 - (intOf i).toNat)
        case atStart => exact ⟨0, _, [], Nat.zero_le _, rfl, hid ⟨runI_zero, rfl⟩, HS3⟩
        case round =>
          clear HS3
          obtain ⟨k, vF, F, hk, rfl, HR, HS⟩ := hrel
          obtain ⟨AF, cF, rfl, hcF⟩ := HS.out.form 0 rfl
          have HFL := hid HR.out.2
          have HN : Hid (NetIs wr (some ⟨b2, 1, none⟩) (ws.length - 1) (c2 - 1) AF F.length cF XS F) := by
            have h1 := HFL.out
            exact ⟨⟨by omega, by omega⟩, ⟨hcF, by omega⟩, HNT.out _ (HS.out.sees (E := elStr) 2 rfl rfl), HS.out.sees (E := elFib) 0 rfl rfl, HXZ.out⟩
          have q0 := HS.out.cell 1 0 rfl rfl
          have q1 := HS.out.cell 1 1 rfl rfl
          clear hcF
          by_cases hlt : k < LS.length - 1
          · obtain ⟨x, hx⟩ := get_of (k := 1 + k) (l := LS) rfl (by omega)
            have f1 := (HS.out.sees (E := elStr) 3 rfl rfl).cell hx (j := 0) rfl
            simp only [elStr, Nat.mul_one, Nat.add_zero, Nat.zero_add] at f1
            have hxs := HPZ.out x (List.mem_of_getElem? hx)
            have HX : Hid (TL[k]? = some x) := by unfold Hid; rw [HTG.out]; exact hx
            have iz : (k : Int) < ((LS.length - 1 : Nat) : Int) := by omega
            clear hx
            go_wp2_with fail
            refine (readFiber_any x _ HN.out (HT.out.on HS.out.bl) (HSE.out.on HS.out.bl) (HM.out.on HS.out.bl) hxs).mono ?_
            rintro e w4 ⟨f, b, rfl, hf, hb⟩
            have hS4a := HS.out.step hb
            have hS4 := hS4a.blk_ w4.heap.size rfl 39 #[.int .i64 f.a, .int .i64 f.b, .int .i64 f.len, .int .i64 f.risk]
            clear hS4a hb f1 q0 q1 HS HN
            cases b
            · have hno := runI_none HR.out.1 HX.out hf
              have y0 := hS4.cell 5 0 rfl rfl
              have y1 := hS4.cell 5 1 rfl rfl
              have z0 := hS4.frozen 5 0 rfl
              have z1 := hS4.frozen 5 1 rfl
              have HE := hid ((hS4.set 5 rfl 0 (.slice none 0 0)).set 5 rfl 1 (.slice none 0 0))
              clear hS4
              go_wp2_with fail
              exact bodyPost_ret (v := .tuple #[.agg #[.slice none 0 0, .slice none 0 0], .bool false]) (by simp [results, Tryd.results5, go_sem, y0, y1]) rfl (pniP.no (pnI_none HPN.out hno) HE.out.bl)
            · have HR2 := hid (runI_succ HR.out.1 HX.out hf)
              have p3 := hS4.cell 2 1 rfl rfl
              have HS5 := hid (hS4.blk_ (w4.heap.size + 1) (by simp) 39 #[.int .i64 f.a, .int .i64 f.b, .int .i64 f.len, .int .i64 f.risk])
              clear hS4 hf
              have hF1 : F.length ≤ 4001 := by have := HFL.out; omega
              go_wp2_with (first
                | (at_builtin; refine wpList_append_led rfl _ _ 23 rfl HS5.out 2 rfl Tryd.underlying23 hi hy0 hy1 (by rw [hy2]; decide) rfl rfl rfl (show Sees elFib _ _ _ 1 [f] from sees_new elFib _ f _ _ (by simp)) (by omega) HS5.out.bl.size ?_)
                | go_in)
              intro A2 c3 w7 hS5
              have p5 := hS5.cell 3 1 rfl rfl
              have z5 := hS5.frozen 3 1 rfl
              have HS6 := hid ((hS5.set 3 rfl 1 (.slice A2 (F.length + 1) c3)).drop 2)
              clear HS5 hS5 p3 hF1
              go_wp2
              go_roundw
              case rel => exact ⟨k + 1, .slice A2 (F.length + 1) c3, F ++ [f], by omega, by go_num, hid ⟨HR2.out, by rw [List.length_append, HFL.out]; rfl⟩, by first | exact HS6 | (rw [e2]; exact HS6)⟩
              case measure => simp [intOf]; omega
          · skip
            have hkk : k = LS.length - 1 := by omega
            have hrd : rdLI XS TL = some F := runI_end (by rw [HTL.out, ← hkk]; exact HR.out.1)
            have HRD := hid hrd
            have iz : ¬ ((k : Int) < ((LS.length - 1 : Nat) : Int)) := by omega
            clear hrd hkk
            go_wp2_with fail
            refine (implFormatNetwork _ HN.out (HT.out.on HS.out.bl)).mono ?_
            rintro e w5 ⟨rfl, hb⟩
            have hS5 := HS.out.step hb
            have HN5 := hid (HN.out.grow hb)
            clear hb q0 q1 HS HN
            obtain ⟨tx, htx⟩ : ∃ tx, fnS XS F = tx := ⟨_, rfl⟩
            rw [htx]
            cases hg : goodB XS F
            · have hno := pnI_bad HPN.out HRD.out hg
              have y0 := hS5.cell 4 0 rfl rfl
              have y1 := hS5.cell 4 1 rfl rfl
              have z0 := hS5.frozen 4 0 rfl
              have z1 := hS5.frozen 4 1 rfl
              have HE := hid ((hS5.set 4 rfl 0 (.slice none 0 0)).set 4 rfl 1 (.slice none 0 0))
              clear hS5
              go_wp2_with fail
              exact bodyPost_ret (v := .tuple #[.agg #[.slice none 0 0, .slice none 0 0], .bool false]) (by simp [results, Tryd.results5, go_sem, y0, y1]) rfl (pniP.no hno HE.out.bl)
            · by_cases hte : tx = s
              · have hpn := pnI_eq HPN.out HRD.out hg (htx.trans hte)
                have HPN2 := hid hpn
                have q0 := hS5.cell 1 0 rfl rfl
                have q1 := hS5.cell 1 1 rfl rfl
                have he : (tx.toList != s.toList) = false := by rw [hte]; simp
                have he2 : (tx.toList == s.toList) = true := by rw [hte]; exact beq_self_eq_true _
                have HS5 := hid hS5
                clear hS5 htx hpn
                go_wp2_with fail
                refine (copyNetwork_any _ HN5.out).mono ?_
                rintro e w6 ⟨A1, d1, A2, d2, rfl, hL⟩
                have hS6 := HS5.out.join hL
                simp only [List.cons_append, List.nil_append] at hS6
                have y0 := hS6.cell 6 0 rfl rfl
                have y1 := hS6.cell 6 1 rfl rfl
                have z0 := hS6.frozen 6 0 rfl
                have z1 := hS6.frozen 6 1 rfl
                have hS7 := (hS6.set 6 rfl 0 (.slice A1 (ws.length - 1) d1)).set 6 rfl 1 (.slice A2 F.length d2)
                have hbz := HS5.out.bl.size
                have HL7 := hid (Led.two hbz hS7)
                clear hS6 hL q0 q1 hS7 HS5
                go_wp2_with fail
                exact bodyPost_ret (v := .tuple #[.agg #[.slice A1 (ws.length - 1) d1, .slice A2 F.length d2], .bool true]) (by simp [results, Tryd.results5, go_sem, y0, y1]) rfl (pniP.yes' HXL.out HPN2.out HL7.out)
              · have hno := pnI_ne HPN.out HRD.out hg (fun h => hte (htx.symm.trans h))
                have he := str_ne hte
                have he2 : (tx.toList != s.toList) = true := by rw [bne, he]; rfl
                clear htx
                have y0 := hS5.cell 4 0 rfl rfl
                have y1 := hS5.cell 4 1 rfl rfl
                have z0 := hS5.frozen 4 0 rfl
                have z1 := hS5.frozen 4 1 rfl
                have HE := hid ((hS5.set 4 rfl 0 (.slice none 0 0)).set 4 rfl 1 (.slice none 0 0))
                clear hS5
                go_wp2_with fail
                exact bodyPost_ret (v := .tuple #[.agg #[.slice none 0 0, .slice none 0 0], .bool false]) (by simp [results, Tryd.results5, go_sem, y0, y1]) rfl (pniP.no hno HE.out.bl)
end Go.Proofs.YtmkgicfgcoeilaaDoor
/- FnExactParseNetwork, walked. Conditions: the library's tables read as they were laid. -/
namespace Go.Proofs.YtmkgicfgcoeilaaDoor.fnExactParseNetwork
open Go.RowKit
theorem net_of {w w' : World} {A A2 : Option Addr} {c1 c2 : Nat} {xs : List ByteArray} {fs : List Fib} (h : Led w w' [tOwns elStr w.heap.size 9 (.slice A xs.length c1) xs, tOwns elFib w.heap.size 39 (.slice A2 fs.length c2) fs]) : NetOwn w' w.heap.size A xs.length c1 A2 fs.length c2 xs fs := by
  have h0 : Owns elStr w' w.heap.size 9 (.slice A xs.length c1) xs := h.get 0 rfl
  have h1 : Owns elFib w' w.heap.size 39 (.slice A2 fs.length c2) fs := h.get 1 rfl
  obtain ⟨_, _, e0, a0, b0, _⟩ := h0.form
  obtain ⟨_, _, e1, a1, b1, _⟩ := h1.form
  injection e0 with _ _ e0
  injection e1 with _ _ e1
  exact ⟨by omega, by omega, by omega, by omega, rfl, rfl, h0, h1⟩
set_option maxHeartbeats 2000000 in
set_option maxRecDepth 100000 in
theorem walk (w : World) {a1 : ByteArray} (_u1 : a1.size ≤ maxLen) (ht : Tab w) (he : Sent w) (hm : Mx w) :
    Calls Tryd.prog 3 #[.string a1] w fun e w' => e = .returned (.bool true) ∧ Below w.heap.size w w' := by
  have HT := hid ht
  have HE := hid he
  have HM := hid hm
  clear ht he hm
  by_cases h1n : a1.size ≤ 1048576
  case neg =>
    have hgt : (a1.size : Int) > 1048576 := by omega
    go_enter Tryd.func3, Tryd.ntmps3
    go_wp2
    go_ret
    exact ⟨rfl, Below.refl _ _⟩
  have hgt : ¬ (a1.size : Int) > 1048576 := by omega
  go_enter Tryd.func3, Tryd.ntmps3
  go_wp2_with fail
  refine (specParseNetwork a1 _ h1n).mono ?_
  rintro e W1 ⟨A, n, c, A2, m, d, xs, fs, b, rfl, hp, hz, hN, hb⟩
  have HB := hid hb
  have hx := hN.xlen
  have hf := hN.flen
  subst hx; subst hf
  have hn := hN.nle
  have hm := hN.mle
  have HP := hid hp
  have HZ := hid hz
  have HN := hid hN
  have hS := (Led.nil W1).blk_ W1.heap.size rfl 25 #[.slice A xs.length c, .slice A2 fs.length d]
  have HS := hid hS
  clear hb hp hz hN hS
  go_wp2_with fail
  refine (implParseNetwork a1 _ (HT.out.on (bl_then HB.out HS.out.bl)) (HE.out.on (bl_then HB.out HS.out.bl)) (HM.out.on (bl_then HB.out HS.out.bl)) h1n).mono ?_
  rintro e W2 ⟨B1, c1, B2, c2, ys, gs, b', rfl, hq, hz2, hL⟩
  obtain ⟨e1, e2, e3⟩ := pn_same HP.out HZ.out hq hz2
  subst e1; subst e2; subst e3
  have hS := (HS.out.net hL.bl (net_of hL)).blk_ W2.heap.size rfl 25 #[.slice B1 ys.length c1, .slice B2 gs.length c2]
  clear hL hq hz2 HS
  have HS := hid hS
  clear hS
  -- [gbox, got, wbox]
  have q0 := HS.out.cell 0 0 rfl rfl
  have q1 := HS.out.cell 0 1 rfl rfl
  have r0 := HS.out.cell 2 0 rfl rfl
  have r1 := HS.out.cell 2 1 rfl rfl
  have nb : (b' != b') = false := by simp
  go_wp2_with fail
  refine (eqNetwork_any _ (NetOwn.strs (HS.out.get 1 rfl)) (HN.out.grow HS.out.bl).strs (NetOwn.fibs (HS.out.get 1 rfl)) (HN.out.grow HS.out.bl).fibs (Nat.le_refl _) (Nat.le_refl _) (by simp only [maxLen]; omega) (by simp only [maxLen]; omega)).mono ?_
  rintro e W3 ⟨rfl, hb⟩
  have H3 := hid (HS.out.step hb)
  clear hb HS q0 q1 r0 r1
  have q0 := H3.out.cell 0 0 rfl rfl
  have q1 := H3.out.cell 0 1 rfl rfl
  go_wp2_with fail
  refine (markN_led H3.out 1 rfl _ hn hm (by omega) (by omega)).mono ?_
  rintro e W4 ⟨rfl, hS1⟩
  dsimp only [List.set] at hS1
  have H4 := hid hS1
  clear hS1 H3 q0 q1
  have q0 := H4.out.cell 0 0 rfl rfl
  have q1 := H4.out.cell 0 1 rfl rfl
  go_wp2_with fail
  refine (heldN_led H4.out 1 _ rfl hn hm (by omega) (by omega)).mono ?_
  rintro e W5 ⟨rfl, hS1⟩
  have H5 := hid hS1
  clear hS1 H4 q0 q1
  have i0 : ¬ (1 + (ys.length : Int) + 4 * (gs.length : Int) < 0) := by omega
  have i1 : ((1 + (ys.length : Int) + 4 * (gs.length : Int)) != (1 + (ys.length : Int) + 4 * (gs.length : Int))) = false := by simp
  go_wp2_with fail
  refine (implParseNetwork a1 _ (HT.out.on (bl_then HB.out H5.out.bl)) (HE.out.on (bl_then HB.out H5.out.bl)) (HM.out.on (bl_then HB.out H5.out.bl)) h1n).mono ?_
  rintro e W6 ⟨D1, d1, D2, d2, zs, ks, b'', rfl, hq, hz2, hL⟩
  obtain ⟨e1, e2, e3⟩ := pn_same HP.out HZ.out hq hz2
  subst e1; subst e2; subst e3
  have H6 := hid ((H5.out.net hL.bl (net_of hL)).blk_ W6.heap.size rfl 25 #[.slice D1 zs.length d1, .slice D2 ks.length d2])
  clear hL hq hz2 H5
  -- [abox, again, gbox, got, wbox]
  have q0 := H6.out.cell 0 0 rfl rfl
  have q1 := H6.out.cell 0 1 rfl rfl
  have r0 := H6.out.cell 4 0 rfl rfl
  have r1 := H6.out.cell 4 1 rfl rfl
  have nb2 : (b'' != b'') = false := by simp
  go_wp2_with fail
  refine (eqNetwork_any _ (NetOwn.strs (H6.out.get 1 rfl)) (HN.out.grow H6.out.bl).strs (NetOwn.fibs (H6.out.get 1 rfl)) (HN.out.grow H6.out.bl).fibs (Nat.le_refl _) (Nat.le_refl _) (by simp only [maxLen]; omega) (by simp only [maxLen]; omega)).mono ?_
  rintro e W7 ⟨rfl, hb⟩
  have H7 := hid (H6.out.step hb)
  clear hb H6 q0 q1 r0 r1
  have q0 := H7.out.cell 2 0 rfl rfl
  have q1 := H7.out.cell 2 1 rfl rfl
  go_wp2_with fail
  refine (heldN_led H7.out 3 _ rfl hn hm (by omega) (by omega)).mono ?_
  rintro e W8 ⟨rfl, hS1⟩
  have H8 := hid hS1
  clear hS1 H7 q0 q1
  go_wp2_with fail
  go_ret
  exact ⟨rfl, bl_then HB.out H8.out.bl⟩
end Go.Proofs.YtmkgicfgcoeilaaDoor.fnExactParseNetwork
