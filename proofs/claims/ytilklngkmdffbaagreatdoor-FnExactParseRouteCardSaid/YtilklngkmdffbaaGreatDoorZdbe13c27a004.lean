/- Lemmas and walks that the claim rests on, laid together. Conditions: none. -/
import Derived.Test.YtilklngkmdffbaaGreatDoorZdbc901ec01f5
import Derived.Test.YtilklngkmdffbaaGreatDoorZ5ac0383fa3b5
import Derived.Test.YtilklngkmdffbaaGreatDoorZ138efcc72c84
import Derived.Test.YtilklngkmdffbaaGreatDoorZ79175d7e8c79
import Derived.Deep.RegionHeld3
import Derived.Lib.SplitLaws
import Derived.Test.YtilklngkmdffbaaGreatDoorZde3d1906e502
/- ParseRoute of both sides, walked. Conditions: at most 1048576 bytes; the library's tables read as they were laid. -/
namespace Go.Proofs.YtilklngkmdffbaaGreatDoor
open Go.RowKit
/-- The numbers at the first k odd places. -/
def idsP (ws : List ByteArray) (k : Nat) : List Int := (List.range k).map fun q => rdV (ws.getD (2 * q + 1) ⟨#[]⟩)
def okP (ws : List ByteArray) (q : Nat) : Bool := rdK (ws.getD (2 * q + 1) ⟨#[]⟩)
theorem idsP_len {ws : List ByteArray} {k : Nat} : (idsP ws k).length = k := by simp [idsP]
theorem idsP_zero {ws : List ByteArray} : idsP ws 0 = [] := rfl
theorem idsP_succ {ws : List ByteArray} {k : Nat} {x : ByteArray} (hx : ws[2 * k + 1]? = some x) : idsP ws (k + 1) = idsP ws k ++ [rdV x] := by
  unfold idsP
  rw [List.range_succ, List.map_append]
  simp [List.getD_eq_getElem?_getD, hx]
theorem okP_at {ws : List ByteArray} {k : Nat} {x : ByteArray} (hx : ws[2 * k + 1]? = some x) : okP ws k = rdK x := by
  unfold okP
  rw [getD_of hx]
def stP (xs ws : List ByteArray) : Int := findI xs (ws.getD 0 ⟨#[]⟩)
/-- Is it a route's text? -/
def prW (xs : List ByteArray) (fs : List Fib) (s : ByteArray) (ws : List ByteArray) : Bool :=
  goodB xs fs && (decide (s.size ≤ 4000) && (allB (okP ws) (ws.length / 2) && (routeB xs fs (stP xs ws) (idsP ws (ws.length / 2)) && decide (ftS xs fs (stP xs ws) (idsP ws (ws.length / 2)) = s))))
def prB (xs : List ByteArray) (fs : List Fib) (s : ByteArray) : Bool := prW xs fs s (splA s 46)
def prS (xs : List ByteArray) (fs : List Fib) (s : ByteArray) : Int := if prB xs fs s then stP xs (splA s 46) else 0
def prL (xs : List ByteArray) (fs : List Fib) (s : ByteArray) : List Int := if prB xs fs s then idsP (splA s 46) ((splA s 46).length / 2) else []
/-- The answer, its three parts held together. -/
def prIs (xs : List ByteArray) (fs : List Fib) (s : ByteArray) (ws : List ByteArray) (pB : Bool) (pS : Int) (pL : List Int) : Prop := pB = prW xs fs s ws ∧ pS = (if pB then stP xs ws else 0) ∧ pL = (if pB then idsP ws (ws.length / 2) else [])
section
variable {xs : List ByteArray} {fs : List Fib} {s : ByteArray} {ws : List ByteArray} {pB : Bool} {pS : Int} {pL : List Int}
theorem pr_parts (h : splA s 46 = ws) : prIs xs fs s ws (prB xs fs s) (prS xs fs s) (prL xs fs s) := by
  subst h
  exact ⟨rfl, rfl, rfl⟩
theorem pr_none (h : prIs xs fs s ws pB pS pL) (g : prW xs fs s ws = false) : pB = false ∧ pS = 0 ∧ pL = [] := by
  obtain ⟨h1, h2, h3⟩ := h
  rw [g] at h1
  subst h1
  exact ⟨rfl, h2, h3⟩
theorem pr_some (h : prIs xs fs s ws pB pS pL) (g : prW xs fs s ws = true) : pB = true ∧ pS = stP xs ws ∧ pL = idsP ws (ws.length / 2) := by
  obtain ⟨h1, h2, h3⟩ := h
  rw [g] at h1
  subst h1
  exact ⟨rfl, h2, h3⟩
theorem prW_good (h : goodB xs fs = false) : prW xs fs s ws = false := by unfold prW; rw [h]; rfl
theorem prW_size (h : ¬ s.size ≤ 4000) : prW xs fs s ws = false := by unfold prW; rw [decide_eq_false h]; simp
theorem prW_num {k : Nat} (hk : k < ws.length / 2) (h : okP ws k = false) : prW xs fs s ws = false := by unfold prW; rw [allB_no hk h]; simp
theorem prW_route (h : routeB xs fs (stP xs ws) (idsP ws (ws.length / 2)) = false) : prW xs fs s ws = false := by unfold prW; rw [h]; simp
theorem prW_text (h : ftS xs fs (stP xs ws) (idsP ws (ws.length / 2)) ≠ s) : prW xs fs s ws = false := by unfold prW; rw [decide_eq_false h]; simp
theorem prW_yes (h1 : goodB xs fs = true) (h2 : s.size ≤ 4000) (h3 : ∀ k, k < ws.length / 2 → okP ws k = true) (h4 : routeB xs fs (stP xs ws) (idsP ws (ws.length / 2)) = true) (h5 : ftS xs fs (stP xs ws) (idsP ws (ws.length / 2)) = s) : prW xs fs s ws = true := by
  unfold prW
  rw [h1, decide_eq_true h2, allB_iff.2 h3, h4, decide_eq_true h5]; rfl
theorem prL_len : (prL xs fs s).length ≤ 2001 := by
  unfold prL
  cases g : prB xs fs s
  · simp
  · have h := (splA_len (s := s) (b := 46)).2
    have h2 : s.size ≤ 4000 := by
      apply Classical.byContradiction
      intro h3
      have := prW_size (xs := xs) (fs := fs) (ws := splA s 46) h3
      unfold prB at g
      rw [this] at g
      cases g
    rw [if_pos rfl, idsP_len]; omega
theorem mem_join_len (c : UInt8) : ∀ (ps : List (List UInt8)) (p : List UInt8), p ∈ ps → p.length ≤ (Lib.join ps [c]).length := by
  intro ps
  induction ps with
  | nil => intro p h; cases h
  | cons q r ih =>
    intro p h
    rw [Lib.join_cons, List.length_append]
    rcases List.mem_cons.1 h with rfl | h
    · omega
    · cases r with
      | nil => cases h
      | cons q2 r2 =>
        have h2 := ih p h
        rw [joinTail_cons]
        simp only [List.length_cons]
        omega
theorem part_size {x : ByteArray} (hx : x ∈ splA s 46) : x.size ≤ s.size := by
  have h1 := (splA_join (s := s) (b := 46) 46 rfl).1
  have h2 := mem_join_len 46 (byts (splA s 46)) x.data.toList (List.mem_map.2 ⟨x, hx, rfl⟩)
  rw [h1] at h2
  simpa using h2
end
section
variable {B n c m d : Nat} {A A' : Option Addr} {xs : List ByteArray} {fs : List Fib}
theorem indexOf_any (s : ByteArray) (w : World) (hA : Sees elStr w B A n xs) (hn : n ≤ maxLen) :
    Calls Tryz.prog 20 #[.slice A n c, .string s] w fun e w' => e = .returned (.tuple #[.int .i64 (if findI xs s = -1 then 0 else findI xs s), .bool (!decide (findI xs s = -1))]) ∧ w = w' := by
  unfold maxLen at hn
  obtain ⟨v, hv⟩ : ∃ v, v = (if findI xs s = -1 then (0 : Int) else findI xs s) := ⟨_, rfl⟩
  obtain ⟨b, hb⟩ : ∃ b, b = (!decide (findI xs s = -1)) := ⟨_, rfl⟩
  rw [← hv, ← hb]
  have HV := hid hv
  have HB := hid hb
  clear hv hb
  go_enter Tryz.func20, Tryz.ntmps20
  go_wp2
  go_loop [10] (fun i => ∃ k : Nat, k ≤ n ∧ i = .int .i64 k ∧ Hid (noneTo xs s k)) (fun i => n - (intOf i).toNat)
  case atStart => exact ⟨0, Nat.zero_le _, rfl, noneTo_zero⟩
  case round =>
    obtain ⟨k, hk, rfl, hno⟩ := hrel
    by_cases hlt : k < n
    · obtain ⟨b1, o, rfl, _, hx⟩ := hA.at_ hlt
      obtain ⟨x, hxk⟩ : ∃ x, xs[k]? = some x := ⟨xs[k]'(by rw [hA.len]; exact hlt), List.getElem?_eq_getElem _⟩
      have hc := hx k x hxk 0 _ rfl
      simp only [elStr, Nat.mul_one, Nat.add_zero] at hc
      clear hx
      by_cases heq : x = s
      · subst heq
        have HF := hid (findI_at hno hxk)
        have HF2 : Hid (v = (k : Int) ∧ b = true) := by
          have h1 : ¬ findI xs x = -1 := by rw [HF.out]; omega
          exact ⟨by rw [HV.out, if_neg h1, HF.out], by rw [HB.out, decide_eq_false h1]; rfl⟩
        clear hxk
        go_wp2
        go_ret2
        exact ⟨by rw [HF2.out.1, HF2.out.2]; rfl, rfl⟩
      · have hne := str_ne heq
        have HN := hid (noneTo_succ hno hxk heq)
        clear hxk hno
        go_wp2
        go_round
        case rel => exact ⟨k + 1, by omega, by go_num, HN⟩
        case measure => simp [intOf]; omega
    · have HF : Hid (v = 0 ∧ b = false) := by
        have h1 : findI xs s = -1 := findI_none hA.len (by obtain rfl : k = n := (by omega); exact hno.out)
        exact ⟨by rw [HV.out, if_pos h1], by rw [HB.out, h1]; rfl⟩
      go_wp2
      go_ret2
      exact ⟨by rw [HF.out.1, HF.out.2]; rfl, rfl⟩
set_option maxHeartbeats 2000000 in
set_option maxRecDepth 100000 in
theorem l3ReadRoute_any (s : ByteArray) (w : World) (h : NetIs w A n c A' m d xs fs) (hg : goodB xs fs = true) (hs : s.size ≤ 4000) :
    Calls Tryz.prog 16 #[.agg #[.slice A n c, .slice A' m d], .string s] w fun e w' => ∃ R k, e = .returned (.tuple #[.agg #[.int .i64 (prS xs fs s), .slice R (prL xs fs s).length k], .bool (prB xs fs s)]) ∧ Owns elInt w' w.heap.size 3 (.slice R (prL xs fs s).length k) (prL xs fs s) ∧ Below w.heap.size w w' := by
  have hS := ((Led.nil w).blk_ w.heap.size rfl 34 #[.slice A n c, .slice A' m d]).blk_ (w.heap.size + 1) (by simp) 29 #[.int .i64 0, .slice none 0 0]
  obtain ⟨ws, hws⟩ : ∃ ws, splA s 46 = ws := ⟨_, rfl⟩
  have HP := hid (pr_parts (xs := xs) (fs := fs) hws)
  obtain ⟨hl0, hl1⟩ := splA_len (s := s) (b := 46)
  rw [hws] at hl0 hl1
  have HPS : Hid (∀ x ∈ ws, x.size ≤ s.size) := by rw [← hws]; exact fun x hx => part_size hx
  have HWS := hid hws
  have HN := hid h
  have HG := hid hg
  generalize prB xs fs s = pB at *
  generalize prS xs fs s = pS at *
  generalize prL xs fs s = pL at *
  obtain ⟨i0, hi, hz0, hz1, hz2⟩ := info_parts int_info
  have hnl := h.nle
  clear hws h hg
  go_enter Tryz.func16, Tryz.ntmps16
  go_wp2_with fail
  refine (l1Split_any s 46 _ (by omega)).mono ?_
  rintro e w1 ⟨v, rfl, ho, hb⟩
  rw [HWS.out] at ho
  obtain ⟨B1, c1, rfl, _, _, hsee⟩ := ho.form
  replace hS := hS.owns_ (b0 := w.heap.size) hb ho (Nat.le_refl _) (by simp; omega)
  obtain ⟨b1, o1, rfl, _, hc1⟩ := hsee.at_ hl0
  obtain ⟨x0, hx0⟩ := get_of (k := 0) (l := ws) rfl hl0
  have f0 := hc1 0 x0 hx0 0 _ rfl
  simp only [elStr, Nat.mul_one, Nat.add_zero] at f0
  have HST : Hid (stP xs ws = findI xs x0) := by unfold Hid stP; rw [getD_of hx0]
  have q0 := hS.cell 2 0 rfl rfl
  have HL2 : Hid (∀ w', Cls w1 w' → Calls Tryz.prog 32 #[.slice A n c, .string x0] w' fun e w2 => e = .returned (.int .i64 (findI xs x0)) ∧ w2 = w') := fun w' hw => (l2Find_any (c := c) x0 w' ((HN.out.grow hS.bl).strs.grow hw) (by unfold maxLen; omega)).mono fun _ _ h => ⟨h.1, h.2.symm⟩
  have C0 : ∀ w', Cls w1 w' → w'.cell? ⟨w.heap.size, 0, none⟩ = some (.slice A n c) := fun _ h => h.cell q0
  have C1 : ∀ w', Cls w1 w' → w'.cell? ⟨b1, o1, none⟩ = some (.string x0) := fun _ h => h.cell f0
  rw [← HST.out] at HL2
  obtain ⟨st, hst⟩ : ∃ st, stP xs ws = st := ⟨_, rfl⟩
  have HST2 := hid hst
  rw [hst] at HL2
  have HS := hid hS
  clear hS ho hb hsee hc1 hx0 C0 C1 HST hst
  go_wp2_with fail
  have C0 : ∀ w', Cls w1 w' → w'.cell? ⟨w.heap.size, 0, none⟩ = some (.slice A n c) := fun _ h => h.cell q0
  have C1 : ∀ w', Cls w1 w' → w'.cell? ⟨b1, o1, none⟩ = some (.string x0) := fun _ h => h.cell f0
  go_region_held3 (fun w' => Cls w1 w') (first | assumption | exact Cls.drew _ | exact (bl_alloc (Below.refl _ _) _).drew | exact bl_alloc (by assumption) _ | exact Cls.next (by assumption) (by assumption))
    (first
      | (go_at_call 32; refine (HL2.out _ (by first | assumption | exact Cls.drew _ | exact bl_alloc (by first | assumption | exact Cls.drew _) _)).mono ?_; rintro e w' ⟨rfl, rfl⟩))
  all_goals
    have HS1 := hid (((HS.out.blk_ w1.heap.size rfl 29 #[.int .i64 st, .slice none 0 0]).step (Cls.drew _)).nilS elInt 3 w.heap.size)
    clear HS HL2 q0 f0 C0 C1
    generalize (w1.alloc (.cells #[.int .i64 st, .slice none 0 0] 29)).drew = w2 at *
    go_wp2_with fail
    go_loopw [8] (fun i wr => ∃ (k q : Nat) (vF : Value), Hid (q = 2 * k + 1) ∧ k ≤ ws.length / 2 ∧ i = .int .i64 q ∧ Hid (∀ j, j < k → okP ws j = true) ∧ Hid (Led w wr [tOwns elInt w.heap.size 3 vF (idsP ws k), tBlk w1.heap.size 29 #[.int .i64 st, vF], tOwns elStr w.heap.size 9 (.slice (some ⟨b1, o1, none⟩) ws.length c1) ws, tBlk (w.heap.size + 1) 29 #[.int .i64 0, .slice none 0 0], tBlk w.heap.size 34 #[.slice A n c, .slice A' m d]])) (fun i _ => ws.length - (intOf i).toNat)
    case atStart => exact ⟨0, 1, _, hid rfl, Nat.zero_le _, rfl, fun j hj => absurd hj (Nat.not_lt_zero _), HS1⟩
    case round =>
      clear HS1
      obtain ⟨k, q, vF, HQ, hk, rfl, HOK, HS⟩ := hrel
      obtain ⟨AF, cF, rfl, _⟩ := HS.out.form 0 rfl
      have HDL : Hid ((idsP ws k).length = k) := idsP_len
      obtain ⟨D, hD⟩ : ∃ D, idsP ws k = D := ⟨_, rfl⟩
      rw [hD] at HS HDL
      have HD := hid hD
      clear hD
      by_cases hlt : q < ws.length
      · obtain ⟨x, hx⟩ := get_of (k := q) (l := ws) rfl hlt
        have HX : Hid (ws[2 * k + 1]? = some x) := by rw [← HQ.out]; exact hx
        have f0 := (HS.out.sees (E := elStr) 2 rfl rfl).cell hx (j := 0) rfl
        simp only [elStr, Nat.mul_one, Nat.add_zero] at f0
        have hxs := HPS.out x (List.mem_of_getElem? hx)
        have hkM : k < ws.length / 2 := by have := HQ.out; omega
        clear hx
        go_wp2_with fail
        refine (l1Read_any x _ (by omega)).mono ?_
        rintro e w3 ⟨rfl, hb⟩
        have hS3 := HS.out.step hb
        clear hb f0
        cases g : rdK x
        · have H := hid (pr_none HP.out (prW_num hkM (by rw [okP_at HX.out, g])))
          have y0 := hS3.cell 3 0 rfl rfl
          have y1 := hS3.cell 3 1 rfl rfl
          have z0 := hS3.frozen 3 0 rfl
          have z1 := hS3.frozen 3 1 rfl
          have HE := hid ((hS3.set 3 rfl 0 (.int .i64 0)).set 3 rfl 1 (.slice none 0 0))
          clear hS3
          go_wp2_with fail
          exact bodyPost_ret (v := .tuple #[.agg #[.int .i64 0, .slice none 0 0], .bool false]) (by simp [results, Tryz.results16, go_sem, y0, y1]) rfl
            ⟨none, 0, by rw [H.out.1, H.out.2.1, H.out.2.2]; rfl, by rw [H.out.2.2]; exact World.ownsRow_nil _ _ _ _, HE.out.bl⟩
        · obtain ⟨y, hy⟩ : ∃ y, rdV x = y := ⟨_, rfl⟩
          have HY := hid hy
          rw [hy]
          have HS2 := hid (hS3.blk_ w3.heap.size rfl 3 #[.int .i64 y])
          have p3 := hS3.cell 1 1 rfl rfl
          have HIDS : Hid (idsP ws (k + 1) = D ++ [y]) := by unfold Hid; rw [idsP_succ HX.out, HD.out, hy]
          have HOK2 : Hid (∀ j, j < k + 1 → okP ws j = true) := fun j hj => by
            by_cases e : j = k
            · rw [e, okP_at HX.out, g]
            · exact HOK.out j (by omega)
          have HDLb : Hid (D.length ≤ 2001) := by have := HDL.out; refine hid ?_; omega
          clear hS3 hy HOK
          go_wp2_with (first
            | (at_builtin; refine wpList_append_led rfl _ _ 27 rfl HS2.out 1 rfl Tryz.underlying27 hi hz0 hz1 (by rw [hz2]; decide) rfl rfl rfl (show Sees elInt _ _ _ 1 [y] from sees_new elInt _ _ _ _ rfl) (by have := HDLb.out; omega) HS2.out.bl.size ?_)
            | go_in)
          intro A2 c2 w7 hS5
          have p5 := hS5.cell 2 1 rfl rfl
          have z5 := hS5.frozen 2 1 rfl
          have HS6 := hid ((hS5.set 2 rfl 1 (.slice A2 (D.length + 1) c2)).drop 1)
          clear HS2 hS5 p3
          have iq : IntKind.i64.wrap ((q : Int) + 2) = ((q + 2 : Nat) : Int) := by rw [IntWalk.i64_in _ (by omega)]; omega
          go_wp2
          go_roundw
          case rel => exact ⟨k + 1, q + 2, _, hid (by have := HQ.out; omega), by omega, by go_num, HOK2, by rw [HIDS.out]; exact HS6⟩
          case measure => simp [intOf]; omega
      · have hkM : k = ws.length / 2 := by have := HQ.out; omega
        have HKM : Hid (idsP ws (ws.length / 2) = D) := by unfold Hid; rw [← hkM]; exact HD.out
        have HOKM : Hid (∀ j, j < ws.length / 2 → okP ws j = true) := by rw [← hkM]; exact HOK
        have hDl : D.length ≤ 1048576 := by have := HDL.out; omega
        clear hkM HD HOK
        have q0 := HS.out.cell 4 0 rfl rfl
        have q1 := HS.out.cell 4 1 rfl rfl
        have p0 := HS.out.cell 1 0 rfl rfl
        have p1 := HS.out.cell 1 1 rfl rfl
        go_wp2_with fail
        refine (l4Good_any st _ (HN.out.grow HS.out.bl) (HS.out.rt 0 rfl hDl)).mono ?_
        rintro e w3 ⟨rfl, hb⟩
        have hS3 := HS.out.step hb
        clear hb q0 q1 p0 p1
        cases g : routeB xs fs st D
        · have H := hid (pr_none HP.out (prW_route (by rw [HKM.out, HST2.out]; exact g)))
          have y0 := hS3.cell 3 0 rfl rfl
          have y1 := hS3.cell 3 1 rfl rfl
          have z0 := hS3.frozen 3 0 rfl
          have z1 := hS3.frozen 3 1 rfl
          have HE := hid ((hS3.set 3 rfl 0 (.int .i64 0)).set 3 rfl 1 (.slice none 0 0))
          clear hS3
          go_wp2_with fail
          exact bodyPost_ret (v := .tuple #[.agg #[.int .i64 0, .slice none 0 0], .bool false]) (by simp [results, Tryz.results16, go_sem, y0, y1]) rfl
            ⟨none, 0, by rw [H.out.1, H.out.2.1, H.out.2.2]; rfl, by rw [H.out.2.2]; exact World.ownsRow_nil _ _ _ _, HE.out.bl⟩
        · have q0 := hS3.cell 4 0 rfl rfl
          have q1 := hS3.cell 4 1 rfl rfl
          have p0 := hS3.cell 1 0 rfl rfl
          have p1 := hS3.cell 1 1 rfl rfl
          have HS3 := hid hS3
          clear hS3
          go_wp2_with fail
          refine (l3Route_any _ (HN.out.grow HS3.out.bl) (HS3.out.rt 0 rfl hDl) g).mono ?_
          rintro e w4 ⟨rfl, hb⟩
          have hS4 := HS3.out.step hb
          clear hb q0 q1 p0 p1 HS3
          obtain ⟨tx, htx⟩ : ∃ tx, ftS xs fs st D = tx := ⟨_, rfl⟩
          rw [htx]
          by_cases ht : tx = s
          · have H := hid (pr_some HP.out (prW_yes HG.out hs HOKM.out (by rw [HKM.out, HST2.out]; exact g) (by rw [HKM.out, HST2.out, htx]; exact ht)))
            rw [HKM.out, HST2.out] at H
            have he : (tx.toList == s.toList) = true := by rw [ht]; exact beq_self_eq_true _
            have y0 := hS4.cell 3 0 rfl rfl
            have y1 := hS4.cell 3 1 rfl rfl
            have z0 := hS4.frozen 3 0 rfl
            have z1 := hS4.frozen 3 1 rfl
            have p0 := hS4.cell 1 0 rfl rfl
            have p1 := hS4.cell 1 1 rfl rfl
            have HE := hid ((hS4.set 3 rfl 0 (.int .i64 st)).set 3 rfl 1 (.slice AF D.length cF))
            clear hS4 htx ht
            go_wp2_with fail
            exact bodyPost_ret (v := .tuple #[.agg #[.int .i64 st, .slice AF D.length cF], .bool true]) (by simp [results, Tryz.results16, go_sem, y0, y1]) rfl
              ⟨AF, cF, by rw [H.out.1, H.out.2.1, H.out.2.2], by rw [H.out.2.2]; exact HE.out.own 0 rfl, HE.out.bl⟩
          · have he := str_ne ht
            have H := hid (pr_none HP.out (prW_text (by rw [HKM.out, HST2.out, htx]; exact ht)))
            have y0 := hS4.cell 3 0 rfl rfl
            have y1 := hS4.cell 3 1 rfl rfl
            have z0 := hS4.frozen 3 0 rfl
            have z1 := hS4.frozen 3 1 rfl
            have HE := hid ((hS4.set 3 rfl 0 (.int .i64 0)).set 3 rfl 1 (.slice none 0 0))
            clear hS4 htx ht
            go_wp2_with fail
            exact bodyPost_ret (v := .tuple #[.agg #[.int .i64 0, .slice none 0 0], .bool false]) (by simp [results, Tryz.results16, go_sem, y0, y1]) rfl
              ⟨none, 0, by rw [H.out.1, H.out.2.1, H.out.2.2]; rfl, by rw [H.out.2.2]; exact World.ownsRow_nil _ _ _ _, HE.out.bl⟩
set_option maxHeartbeats 2000000 in
set_option maxRecDepth 100000 in
theorem specParseRoute (s : ByteArray) (w : World) (h : NetIs w A n c A' m d xs fs) :
    Calls Tryz.prog 5 #[.agg #[.slice A n c, .slice A' m d], .string s] w fun e w' => ∃ R k, e = .returned (.tuple #[.agg #[.int .i64 (prS xs fs s), .slice R (prL xs fs s).length k], .bool (prB xs fs s)]) ∧ Owns elInt w' w.heap.size 3 (.slice R (prL xs fs s).length k) (prL xs fs s) ∧ Below w.heap.size w w' := by
  have hS := ((Led.nil w).blk_ w.heap.size rfl 34 #[.slice A n c, .slice A' m d]).blk_ (w.heap.size + 1) (by simp) 29 #[.int .i64 0, .slice none 0 0]
  have HP := hid (pr_parts (xs := xs) (fs := fs) (s := s) rfl)
  have HN := hid h
  by_cases hy : goodB xs fs = true ∧ s.size ≤ 4000
  · obtain ⟨hg, hs⟩ := hy
    have hgt : ¬ (s.size : Int) > 4000 := by omega
    have HF := hid (fun w' (hw : NetIs w' A n c A' m d xs fs) => l3ReadRoute_any s w' hw hg hs)
    generalize prB xs fs s = pB at *
    generalize prS xs fs s = pS at *
    generalize prL xs fs s = pL at *
    clear h
    go_enter Tryz.func5, Tryz.ntmps5
    go_wp2_with fail
    refine (goodN _ (HN.out.grow hS.bl)).mono ?_
    rintro e w1 ⟨rfl, hb⟩
    rw [hg]
    have HLT : Hid (w.heap.size + 1 < w1.heap.size) := by have := hb.size; simp at this; refine hid ?_; omega
    replace hS := hS.step hb
    have q0 := hS.cell 1 0 rfl rfl
    have q1 := hS.cell 1 1 rfl rfl
    clear hb
    go_wp2_with fail
    refine (HF.out _ (HN.out.grow hS.bl)).mono ?_
    rintro e w2 ⟨R, k, rfl, ho2, hb2⟩
    have hS4 := hS.step hb2
    have y0 := hS4.cell 0 0 rfl rfl
    have y1 := hS4.cell 0 1 rfl rfl
    have z0 := hS4.frozen 0 0 rfl
    have z1 := hS4.frozen 0 1 rfl
    have HE := hid ((hS4.set 0 rfl 0 (.int .i64 pS)).set 0 rfl 1 (.slice R pL.length k))
    have HSZ := hid (((ho2.far (p := ⟨w.heap.size + 1, 0, none⟩) HLT.out (.int .i64 pS)).far (p := ⟨w.heap.size + 1, 1, none⟩) HLT.out (.slice R pL.length k)).base (base' := w.heap.size) (by have := HLT.out; omega))
    clear hS4 hS hb2 ho2 q0 q1 HF
    go_wp2_with fail
    exact bodyPost_ret (v := .tuple #[.agg #[.int .i64 pS, .slice R pL.length k], .bool pB]) (by simp [results, Tryz.results5, go_sem, y0, y1]) rfl
      ⟨R, k, rfl, HSZ.out, HE.out.bl⟩
  · have hw : prW xs fs s (splA s 46) = false := by
      by_cases hg : goodB xs fs = true
      · exact prW_size fun h2 => hy ⟨hg, h2⟩
      · exact prW_good (by simpa using hg)
    have H := hid (pr_none HP.out hw)
    clear hw HP
    generalize prB xs fs s = pB at *
    generalize prS xs fs s = pS at *
    generalize prL xs fs s = pL at *
    clear h
    cases hg : goodB xs fs
    · go_enter Tryz.func5, Tryz.ntmps5
      go_wp2_with fail
      refine (goodN _ (HN.out.grow hS.bl)).mono ?_
      rintro e w1 ⟨rfl, hb⟩
      rw [hg]
      have hS4 := hS.step hb
      have y0 := hS4.cell 0 0 rfl rfl
      have y1 := hS4.cell 0 1 rfl rfl
      have z0 := hS4.frozen 0 0 rfl
      have z1 := hS4.frozen 0 1 rfl
      have HE := hid ((hS4.set 0 rfl 0 (.int .i64 0)).set 0 rfl 1 (.slice none 0 0))
      clear hS hS4 hb hy
      go_wp2_with fail
      exact bodyPost_ret (v := .tuple #[.agg #[.int .i64 0, .slice none 0 0], .bool false]) (by simp [results, Tryz.results5, go_sem, y0, y1]) rfl
        ⟨none, 0, by rw [H.out.1, H.out.2.1, H.out.2.2]; rfl, by rw [H.out.2.2]; exact World.ownsRow_nil _ _ _ _, HE.out.bl⟩
    · have hgt : (s.size : Int) > 4000 := by
        apply Classical.byContradiction
        intro h2
        exact hy ⟨hg, by omega⟩
      go_enter Tryz.func5, Tryz.ntmps5
      go_wp2_with fail
      refine (goodN _ (HN.out.grow hS.bl)).mono ?_
      rintro e w1 ⟨rfl, hb⟩
      rw [hg]
      have hS4 := hS.step hb
      have y0 := hS4.cell 0 0 rfl rfl
      have y1 := hS4.cell 0 1 rfl rfl
      have z0 := hS4.frozen 0 0 rfl
      have z1 := hS4.frozen 0 1 rfl
      have HE := hid ((hS4.set 0 rfl 0 (.int .i64 0)).set 0 rfl 1 (.slice none 0 0))
      clear hS hS4 hb hy
      go_wp2_with fail
      exact bodyPost_ret (v := .tuple #[.agg #[.int .i64 0, .slice none 0 0], .bool false]) (by simp [results, Tryz.results5, go_sem, y0, y1]) rfl
        ⟨none, 0, by rw [H.out.1, H.out.2.1, H.out.2.2]; rfl, by rw [H.out.2.2]; exact World.ownsRow_nil _ _ _ _, HE.out.bl⟩
end
end Go.Proofs.YtilklngkmdffbaaGreatDoor
/- The program's ParseRoute, walked. Conditions: at most 1048576 bytes; the library's tables read as they were laid. -/
namespace Go.Proofs.YtilklngkmdffbaaGreatDoor
open Go.RowKit
/-- The library's variable of the longest slice that is searched holds a number. -/
def Mx (w : World) : Prop := ∃ m, w.cell? ⟨0, 0, none⟩ = some (.int .i64 m) ∧ 0 < w.heap.size
theorem Mx.on {w w' : World} (h : Mx w) (hb : Below w.heap.size w w') : Mx w' := by
  obtain ⟨m, h1, h2⟩ := h
  exact ⟨m, (hb.cell (show (⟨0, 0, none⟩ : Addr).block < w.heap.size from h2)).trans h1, Nat.lt_of_lt_of_le h2 hb.size⟩
theorem mx_of_shape {w : World} (h : w.ShapedOpen Tryz.prog) : Mx w := by
  obtain ⟨m, hm⟩ := Tryz.laysM146.s1_3 w h
  exact ⟨m, hm, World.block_lt_of_cell? w _ hm⟩
theorem sent_of_laid6 {W : World} {a b c d f : String × DataW Unit} {r : List (String × DataW Unit)} (h : laidMet Tryz.prog (a :: b :: c :: d :: f :: ("strconv.ErrSyntax", Rows.laid_strconv_ErrSyntax) :: r) W) : Sent W := sent_of_laid (a := b) (b := c) (c := d) (d := f) h.tail
theorem filled_strs (l : List ByteArray) : Filled elStr (l.map Value.string).toArray l l.length := by
  intro j x hj hx i u hu
  match i, hu with
  | 0, hu =>
    simp [elStr] at hu
    subst hu
    simp [elStr, hx]
theorem split_any (s : ByteArray) (w : World) (hm : Mx w) (hs : s.size ≤ 1048576) :
    Calls Tryz.prog 19 #[.string s, .string ⟨#[46]⟩] w fun e w' => ∃ A c, e = .returned (.slice A (splA s 46).length c) ∧ Owns elStr w' w.heap.size 9 (.slice A (splA s 46).length c) (splA s 46) ∧ Below w.heap.size w w' := by
  obtain ⟨m, hm0, hm1⟩ := hm
  refine (Tryz.strings_Split s ⟨#[46]⟩ m w (by omega) hm0 (by decide)).mono ?_
  rintro e w' ⟨rfl, rfl⟩
  have h1 : Lib.splitB ⟨#[46]⟩ 0 (Lib.countB s ⟨#[46]⟩) s = splA s 46 := splitB_splA (c := 46) s
  have h2 := Lib.splitB_all ⟨#[46]⟩ (by decide) 0 _ s rfl
  rw [h1] at h2
  have h3 := (splA_len (s := s) (b := 46)).2
  rw [h1, ← h2]
  exact ⟨_, _, rfl, Owns.of_blk (n := (splA s 46).length) (cap := (splA s 46).length) (cur := ((splA s 46).map Value.string).toArray) (Blk.new w _ _) (Nat.le_refl _) rfl (Nat.le_refl _) (by simp [elStr]) (by unfold maxLen; omega) (filled_strs _), bl_alloc (Below.refl _ _) _⟩
section
variable {n c m d : Nat} {A A' : Option Addr} {xs : List ByteArray} {fs : List Fib}
theorem route_minus {ids : List Int} : routeB xs fs (-1) ids = false := by
  unfold routeB rtB inB
  simp
set_option maxHeartbeats 2000000 in
set_option maxRecDepth 100000 in
theorem implParseRoute (s : ByteArray) (w : World) (h : NetIs w A n c A' m d xs fs) (ht : Tab w) (he : Sent w) (hm : Mx w) (hs : s.size ≤ 1048576) :
    Calls Tryz.prog 7 #[.agg #[.slice A n c, .slice A' m d], .string s] w fun e w' => ∃ R k, e = .returned (.tuple #[.agg #[.int .i64 (prS xs fs s), .slice R (prL xs fs s).length k], .bool (prB xs fs s)]) ∧ Owns elInt w' w.heap.size 3 (.slice R (prL xs fs s).length k) (prL xs fs s) ∧ Below w.heap.size w w' := by
  have hS := ((Led.nil w).blk_ w.heap.size rfl 34 #[.slice A n c, .slice A' m d]).blk_ (w.heap.size + 1) (by simp) 29 #[.int .i64 0, .slice none 0 0]
  obtain ⟨ws, hws⟩ : ∃ ws, splA s 46 = ws := ⟨_, rfl⟩
  have HP := hid (pr_parts (xs := xs) (fs := fs) hws)
  obtain ⟨hl0, hl1⟩ := splA_len (s := s) (b := 46)
  rw [hws] at hl0 hl1
  have HPS : Hid (∀ x ∈ ws, x.size ≤ s.size) := by rw [← hws]; exact fun x hx => part_size hx
  have HWS := hid hws
  have HN := hid h
  have HT := hid ht
  have HSE := hid he
  have HM := hid hm
  generalize prB xs fs s = pB at *
  generalize prS xs fs s = pS at *
  generalize prL xs fs s = pL at *
  obtain ⟨i0, hi, hz0, hz1, hz2⟩ := info_parts int_info
  have hnl := h.nle
  clear hws h ht he hm
  go_enter Tryz.func7, Tryz.ntmps7
  go_wp2_with fail
  refine (split_any s _ (HM.out.on hS.bl) hs).mono ?_
  rintro e w1 ⟨B1, c1, rfl, ho, hb⟩
  rw [HWS.out] at ho
  rw [HWS.out]
  have hsee : Sees elStr w1 w1.heap.size B1 ws.length ws := ho.sees
  replace hS := hS.owns_ (b0 := w.heap.size) hb ho (Nat.le_refl _) (by simp; omega)
  obtain ⟨b1, o1, rfl, _, hc1⟩ := hsee.at_ hl0
  obtain ⟨x0, hx0⟩ := get_of (k := 0) (l := ws) rfl hl0
  have f0 := hc1 0 x0 hx0 0 _ rfl
  simp only [elStr, Nat.mul_one, Nat.add_zero] at f0
  have HST : Hid (stP xs ws = findI xs x0) := by unfold Hid stP; rw [getD_of hx0]
  have q0 := hS.cell 2 0 rfl rfl
  have HL2 := hid (fun w' (hw : Cls w1 w') => indexOf_any (c := c) x0 w' ((HN.out.grow hS.bl).strs.grow hw) (by unfold maxLen; omega))
  rw [← HST.out] at HL2
  obtain ⟨st, hst⟩ : ∃ st, stP xs ws = st := ⟨_, rfl⟩
  have HST2 := hid hst
  rw [hst] at HL2
  have C0 : ∀ w', Cls w1 w' → w'.cell? ⟨w.heap.size, 0, none⟩ = some (.slice A n c) := fun _ h => h.cell q0
  have C1 : ∀ w', Cls w1 w' → w'.cell? ⟨b1, o1, none⟩ = some (.string x0) := fun _ h => h.cell f0
  have HS0 := hid hS
  clear hS ho hb hsee hc1 hx0 HST hst q0 f0
  by_cases hm1 : st = -1
  · rw [if_pos hm1, decide_eq_true hm1] at HL2
    go_wp2_with fail
    refine region_cls (by kernel_rfl) (by kernel_rfl) ?_
    repeat (first
      | ((with_reducible refine quiet_pos ?_ (fun K hK => ?_))
         · rfl
         apply Exists.intro
         refine ⟨fun w' hw' => ?_, ?_⟩
         · go_simp
           first
             | with_reducible rfl
             | go_at_call 20; with_reducible exact hw'.same (HL2.out _ hw')
         simp only [Act.put, List.setIfInBounds_toArray, List.set_cons_zero, List.set_cons_succ]
         refine hK _ ?_; clear hK K)
      | ((with_reducible refine quiet_neg ?_ (fun K hK => ?_))
         · rfl
         simp only [Act.put, List.setIfInBounds_toArray, List.set_cons_zero, List.set_cons_succ]
         refine hK _ ?_; clear hK K))
    with_reducible refine wpQuiet_nil ?_
    intro wz hwz'
    have HS := hid (HS0.out.step hwz')
    clear HS0 C0 C1 hwz'
    have H := hid (pr_none HP.out (prW_route (by rw [HST2.out, hm1]; exact route_minus)))
    have y0 := HS.out.cell 1 0 rfl rfl
    have y1 := HS.out.cell 1 1 rfl rfl
    have z0 := HS.out.frozen 1 0 rfl
    have z1 := HS.out.frozen 1 1 rfl
    have HE := hid ((HS.out.set 1 rfl 0 (.int .i64 0)).set 1 rfl 1 (.slice none 0 0))
    clear HL2 HS hm1
    go_wp2_with fail
    exact bodyPost_ret (v := .tuple #[.agg #[.int .i64 0, .slice none 0 0], .bool false]) (by simp [results, Tryz.results7, go_sem, y0, y1]) rfl
      ⟨none, 0, by rw [H.out.1, H.out.2.1, H.out.2.2]; rfl, by rw [H.out.2.2]; exact World.ownsRow_nil _ _ _ _, HE.out.bl⟩
  · rw [if_neg hm1, decide_eq_false hm1] at HL2
    by_cases hsz : s.size ≤ 4000
    case neg =>
      have hgt : (s.size : Int) > 4000 := by omega
      go_wp2_with fail
      refine region_cls (by kernel_rfl) (by kernel_rfl) ?_
      repeat (first
        | ((with_reducible refine quiet_pos ?_ (fun K hK => ?_))
           · rfl
           apply Exists.intro
           refine ⟨fun w' hw' => ?_, ?_⟩
           · go_simp
             first
               | with_reducible rfl
               | go_at_call 20; with_reducible exact hw'.same (HL2.out _ hw')
           simp only [Act.put, List.setIfInBounds_toArray, List.set_cons_zero, List.set_cons_succ]
           refine hK _ ?_; clear hK K)
        | ((with_reducible refine quiet_neg ?_ (fun K hK => ?_))
           · rfl
           simp only [Act.put, List.setIfInBounds_toArray, List.set_cons_zero, List.set_cons_succ]
           refine hK _ ?_; clear hK K))
      with_reducible refine wpQuiet_nil ?_
      intro wz hwz'
      have HS := hid (HS0.out.step hwz')
      clear HS0 C0 C1 hwz'
      have H := hid (pr_none HP.out (prW_size hsz))
      have y0 := HS.out.cell 1 0 rfl rfl
      have y1 := HS.out.cell 1 1 rfl rfl
      have z0 := HS.out.frozen 1 0 rfl
      have z1 := HS.out.frozen 1 1 rfl
      have HE := hid ((HS.out.set 1 rfl 0 (.int .i64 0)).set 1 rfl 1 (.slice none 0 0))
      clear HL2 HS hm1
      go_wp2_with fail
      exact bodyPost_ret (v := .tuple #[.agg #[.int .i64 0, .slice none 0 0], .bool false]) (by simp [results, Tryz.results7, go_sem, y0, y1]) rfl
        ⟨none, 0, by rw [H.out.1, H.out.2.1, H.out.2.2]; rfl, by rw [H.out.2.2]; exact World.ownsRow_nil _ _ _ _, HE.out.bl⟩
    case pos =>
    have hgt : ¬ (s.size : Int) > 4000 := by omega
    go_wp2_with fail
    refine region_cls (by kernel_rfl) (by kernel_rfl) ?_
    repeat (first
      | ((with_reducible refine quiet_pos ?_ (fun K hK => ?_))
         · rfl
         apply Exists.intro
         refine ⟨fun w' hw' => ?_, ?_⟩
         · go_simp
           first
             | with_reducible rfl
             | go_at_call 20; with_reducible exact hw'.same (HL2.out _ hw')
         simp only [Act.put, List.setIfInBounds_toArray, List.set_cons_zero, List.set_cons_succ]
         refine hK _ ?_; clear hK K)
      | ((with_reducible refine quiet_neg ?_ (fun K hK => ?_))
         · rfl
         simp only [Act.put, List.setIfInBounds_toArray, List.set_cons_zero, List.set_cons_succ]
         refine hK _ ?_; clear hK K))
    with_reducible refine wpQuiet_nil ?_
    intro wz hwz'
    have HS := hid (HS0.out.step hwz')
    clear HS0 C0 C1 hwz'
    have HS1 := hid ((HS.out.blk_ wz.heap.size rfl 29 #[.int .i64 st, .slice none 0 0]).nilS elInt 3 w.heap.size)
    clear HL2 HS
    go_wp2_with fail
    go_loopw [10] (fun i wr => ∃ (k q : Nat) (vF : Value), Hid (q = 2 * k + 1) ∧ k ≤ ws.length / 2 ∧ i = .int .i64 q ∧ Hid (∀ j, j < k → okP ws j = true) ∧ Hid (Led w wr [tOwns elInt w.heap.size 3 vF (idsP ws k), tBlk wz.heap.size 29 #[.int .i64 st, vF], tOwns elStr w.heap.size 9 (.slice (some ⟨b1, o1, none⟩) ws.length c1) ws, tBlk (w.heap.size + 1) 29 #[.int .i64 0, .slice none 0 0], tBlk w.heap.size 34 #[.slice A n c, .slice A' m d]])) (fun i _ => ws.length - (intOf i).toNat)
    case atStart => exact ⟨0, 1, _, hid rfl, Nat.zero_le _, rfl, fun j hj => absurd hj (Nat.not_lt_zero _), HS1⟩
    case round =>
      clear HS1
      obtain ⟨k, q, vF, HQ, hk, rfl, HOK, HS⟩ := hrel
      obtain ⟨AF, cF, rfl, _⟩ := HS.out.form 0 rfl
      have HDL : Hid ((idsP ws k).length = k) := idsP_len
      obtain ⟨D, hD⟩ : ∃ D, idsP ws k = D := ⟨_, rfl⟩
      rw [hD] at HS HDL
      have HD := hid hD
      clear hD
      by_cases hlt : q < ws.length
      · obtain ⟨x, hx⟩ := get_of (k := q) (l := ws) rfl hlt
        have HX : Hid (ws[2 * k + 1]? = some x) := by rw [← HQ.out]; exact hx
        have f0 := (HS.out.sees (E := elStr) 2 rfl rfl).cell hx (j := 0) rfl
        simp only [elStr, Nat.mul_one, Nat.add_zero] at f0
        have hxs := HPS.out x (List.mem_of_getElem? hx)
        have hkM : k < ws.length / 2 := by have := HQ.out; omega
        clear hx
        go_wp2_with fail
        refine (implParseInt x _ (HT.out.on HS.out.bl) (HSE.out.on HS.out.bl) (by omega)).mono ?_
        rintro e w4 ⟨rfl, hb⟩
        have hS3 := HS.out.step hb
        clear hb f0
        cases g : rdK x
        · have H := hid (pr_none HP.out (prW_num hkM (by rw [okP_at HX.out, g])))
          have y0 := hS3.cell 3 0 rfl rfl
          have y1 := hS3.cell 3 1 rfl rfl
          have z0 := hS3.frozen 3 0 rfl
          have z1 := hS3.frozen 3 1 rfl
          have HE := hid ((hS3.set 3 rfl 0 (.int .i64 0)).set 3 rfl 1 (.slice none 0 0))
          clear hS3
          go_wp2_with fail
          exact bodyPost_ret (v := .tuple #[.agg #[.int .i64 0, .slice none 0 0], .bool false]) (by simp [results, Tryz.results7, go_sem, y0, y1]) rfl
            ⟨none, 0, by rw [H.out.1, H.out.2.1, H.out.2.2]; rfl, by rw [H.out.2.2]; exact World.ownsRow_nil _ _ _ _, HE.out.bl⟩
        · obtain ⟨y, hy⟩ : ∃ y, rdV x = y := ⟨_, rfl⟩
          have HY := hid hy
          rw [hy]
          have HS2 := hid (hS3.blk_ w4.heap.size rfl 3 #[.int .i64 y])
          have p3 := hS3.cell 1 1 rfl rfl
          have HIDS : Hid (idsP ws (k + 1) = D ++ [y]) := by unfold Hid; rw [idsP_succ HX.out, HD.out, hy]
          have HOK2 : Hid (∀ j, j < k + 1 → okP ws j = true) := fun j hj => by
            by_cases e : j = k
            · rw [e, okP_at HX.out, g]
            · exact HOK.out j (by omega)
          have HDLb : Hid (D.length ≤ 2001) := by have := HDL.out; refine hid ?_; omega
          clear hS3 hy HOK
          go_wp2_with (first
            | (at_builtin; refine wpList_append_led rfl _ _ 27 rfl HS2.out 1 rfl Tryz.underlying27 hi hz0 hz1 (by rw [hz2]; decide) rfl rfl rfl (show Sees elInt _ _ _ 1 [y] from sees_new elInt _ _ _ _ rfl) (by have := HDLb.out; omega) HS2.out.bl.size ?_)
            | go_in)
          intro A2 c2 w7 hS5
          have p5 := hS5.cell 2 1 rfl rfl
          have z5 := hS5.frozen 2 1 rfl
          have HS6 := hid ((hS5.set 2 rfl 1 (.slice A2 (D.length + 1) c2)).drop 1)
          clear HS2 hS5 p3
          have iq : IntKind.i64.wrap ((q : Int) + 2) = ((q + 2 : Nat) : Int) := by rw [IntWalk.i64_in _ (by omega)]; omega
          go_wp2
          go_roundw
          case rel => first
            | exact ⟨k + 1, q + 2, _, hid (by have := HQ.out; omega), by omega, by go_num, HOK2, by rw [HIDS.out]; exact HS6⟩
            | ((repeat apply Exists.intro); exact ⟨⟨k + 1, q + 2, _, hid (by have := HQ.out; omega), by omega, by go_num, HOK2, by rw [HIDS.out]; exact HS6⟩, rfl⟩)
          case measure => simp [intOf]; omega
      · have hkM : k = ws.length / 2 := by have := HQ.out; omega
        have HKM : Hid (idsP ws (ws.length / 2) = D) := by unfold Hid; rw [← hkM]; exact HD.out
        have HOKM : Hid (∀ j, j < ws.length / 2 → okP ws j = true) := by rw [← hkM]; exact HOK
        have hDl : D.length ≤ 1048576 := by have := HDL.out; omega
        clear hkM HD HOK
        have q0 := HS.out.cell 4 0 rfl rfl
        have q1 := HS.out.cell 4 1 rfl rfl
        have p0 := HS.out.cell 1 0 rfl rfl
        have p1 := HS.out.cell 1 1 rfl rfl
        obtain ⟨tx, htx⟩ : ∃ tx, ftS xs fs st D = tx := ⟨_, rfl⟩
        have HF := hid (implFormatRoute (s := st) _ (HN.out.grow HS.out.bl) (HS.out.rt 0 rfl hDl) (HT.out.on HS.out.bl))
        rw [htx] at HF
        cases g : routeB xs fs st D
        · rw [g] at HF
          go_wp2_with fail
          refine HF.out.mono ?_
          rintro e w4 ⟨rfl, hb⟩
          have hS4 := HS.out.step hb
          clear hb q0 q1 p0 p1 HF
          have H := hid (pr_none HP.out (prW_route (by rw [HKM.out, HST2.out]; exact g)))
          have y0 := hS4.cell 3 0 rfl rfl
          have y1 := hS4.cell 3 1 rfl rfl
          have z0 := hS4.frozen 3 0 rfl
          have z1 := hS4.frozen 3 1 rfl
          have HE := hid ((hS4.set 3 rfl 0 (.int .i64 0)).set 3 rfl 1 (.slice none 0 0))
          clear hS4 htx
          go_wp2_with fail
          exact bodyPost_ret (v := .tuple #[.agg #[.int .i64 0, .slice none 0 0], .bool false]) (by simp [results, Tryz.results7, go_sem, y0, y1]) rfl
            ⟨none, 0, by rw [H.out.1, H.out.2.1, H.out.2.2]; rfl, by rw [H.out.2.2]; exact World.ownsRow_nil _ _ _ _, HE.out.bl⟩
        · rw [g] at HF
          go_wp2_with fail
          refine HF.out.mono ?_
          rintro e w4 ⟨rfl, hb⟩
          have hS4 := HS.out.step hb
          clear hb q0 q1 p0 p1 HF
          by_cases ht : tx = s
          · have H := hid (pr_some HP.out (prW_yes (routeB_good g).1 hsz HOKM.out (by rw [HKM.out, HST2.out]; exact g) (by rw [HKM.out, HST2.out, htx]; exact ht)))
            rw [HKM.out, HST2.out] at H
            have he : (tx.toList == s.toList) = true := by rw [ht]; exact beq_self_eq_true _
            have y0 := hS4.cell 3 0 rfl rfl
            have y1 := hS4.cell 3 1 rfl rfl
            have z0 := hS4.frozen 3 0 rfl
            have z1 := hS4.frozen 3 1 rfl
            have p0 := hS4.cell 1 0 rfl rfl
            have p1 := hS4.cell 1 1 rfl rfl
            have HE := hid ((hS4.set 3 rfl 0 (.int .i64 st)).set 3 rfl 1 (.slice AF D.length cF))
            clear hS4 htx ht
            go_wp2_with fail
            exact bodyPost_ret (v := .tuple #[.agg #[.int .i64 st, .slice AF D.length cF], .bool true]) (by simp [results, Tryz.results7, go_sem, y0, y1]) rfl
              ⟨AF, cF, by rw [H.out.1, H.out.2.1, H.out.2.2], by rw [H.out.2.2]; exact HE.out.own 0 rfl, HE.out.bl⟩
          · have he := str_ne ht
            have H := hid (pr_none HP.out (prW_text (by rw [HKM.out, HST2.out, htx]; exact ht)))
            have y0 := hS4.cell 3 0 rfl rfl
            have y1 := hS4.cell 3 1 rfl rfl
            have z0 := hS4.frozen 3 0 rfl
            have z1 := hS4.frozen 3 1 rfl
            have HE := hid ((hS4.set 3 rfl 0 (.int .i64 0)).set 3 rfl 1 (.slice none 0 0))
            clear hS4 htx ht
            go_wp2_with fail
            exact bodyPost_ret (v := .tuple #[.agg #[.int .i64 0, .slice none 0 0], .bool false]) (by simp [results, Tryz.results7, go_sem, y0, y1]) rfl
              ⟨none, 0, by rw [H.out.1, H.out.2.1, H.out.2.2]; rfl, by rw [H.out.2.2]; exact World.ownsRow_nil _ _ _ _, HE.out.bl⟩
end
end Go.Proofs.YtilklngkmdffbaaGreatDoor
/- FnExactParseRoute, walked. Conditions: none. -/
namespace Go.Proofs.YtilklngkmdffbaaGreatDoor.fnExactParseRoute
open Go.RowKit
set_option maxHeartbeats 2000000 in
set_option maxRecDepth 100000 in
theorem walk (w : World) {A0 E0 : Option Addr} {n0 c0 m0 d0 : Nat} {xs0 : List ByteArray} {fs0 : List Fib} (h0 : NetArg w A0 n0 c0 E0 m0 d0 xs0 fs0) {a1 : ByteArray} (_u1 : a1.size ≤ maxLen) (ht : Tab w) (he : Sent w) (hm : Mx w) :
    Calls Tryz.prog 3 #[.agg #[.slice A0 n0 c0, .slice E0 m0 d0], .string a1] w fun e w' => e = .returned (.bool true) ∧ Below w.heap.size w w' := by
  obtain ⟨⟨h0nc, h0cm, h0A, h0x⟩, ⟨h0md, h0dm, h0F, _⟩⟩ := h0
  have HT := hid ht
  clear ht
  have HE := hid he
  clear he
  have HM := hid hm
  clear hm
  have hS := Led.nil w
  replace hS := hS.blk_ (w.heap.size) (by simp) 25 #[.slice A0 n0 c0, .slice E0 m0 d0]
  by_cases h1n : a1.size ≤ 1048576
  case neg =>
    go_enter Tryz.func3, Tryz.ntmps3
    go_wp2
    go_ret
    exact ⟨rfl, hS.bl⟩
  obtain ⟨r0, hr0⟩ : ∃ r, r = lessI 1048576 (netTot xs0 fs0) := ⟨_, rfl⟩
  have hlb0 := lessI_bd (left := 1048576) (t := (netTot xs0 fs0))
  rw [← hr0] at hlb0
  have HR0 := hid hr0
  clear hr0
  rcases hlb0 with ⟨hz0, _⟩ | ⟨hz0, hy0, hx0⟩
  case inl =>
    subst hz0
    go_enter Tryz.func3, Tryz.ntmps3
    go_wp2_with fail
    refine (szNetwork_any 1048576 _ (h0A.below hS.bl) (h0F.below hS.bl) hS.bl.size (by omega) (by omega) h0x (by omega) (by omega)).mono ?_
    rintro e W1 ⟨rfl, hb⟩; replace hS := hS.step hb; clear hb
    rw [← HR0.out]
    go_wp2_with fail
    go_ret
    exact ⟨rfl, hS.bl⟩
  have h0n : n0 ≤ 1048576 := by have := h0A.len; unfold netTot strTot at hx0; omega
  have h0m : m0 ≤ 1048576 := by have := h0F.len; unfold netTot strTot at hx0; omega
  have h0I := hid (show NetIs w A0 n0 c0 E0 m0 d0 xs0 fs0 from ⟨⟨h0nc, h0n⟩, ⟨h0md, h0m⟩, h0A, h0F, h0x⟩)
  clear hx0
  go_enter Tryz.func3, Tryz.ntmps3
  go_wp2_with fail
  refine (szNetwork_any 1048576 _ (h0A.below hS.bl) (h0F.below hS.bl) hS.bl.size (by omega) (by omega) h0x (by omega) (by omega)).mono ?_
  rintro e W1 ⟨rfl, hb⟩; replace hS := hS.step hb; clear hb
  rw [← HR0.out]
  -- the reference
  have q0 := hS.cell 0 0 rfl rfl
  have q1 := hS.cell 0 1 rfl rfl
  go_wp2_with fail
  refine (toNetwork_own _ (h0I.out.grow hS.bl).strs (h0I.out.grow hS.bl).fibs (Nat.le_refl _) h0n h0m).mono ?_
  rintro e W2 ⟨Aw0, cw0, Ew0, dw0, rfl, ho, hb⟩
  replace hS := hS.net hb ho
  clear hb ho
  clear q0 q1
  go_wp2_with fail
  refine (specParseRoute a1 _ (hS.netIs 0 rfl h0n h0m h0x)).mono ?_
  rintro e W3 ⟨Aw0, cw0, rfl, ho0, hb⟩
  have hlen0 := hid ((Nat.le_trans prL_len (by decide) : (prL xs0 fs0 a1).length ≤ 1048576))
  generalize hL0 : prL xs0 fs0 a1 = L0 at *
  replace hS := hS.owns hb ho0
  clear hb ho0
  replace hS := hS.blk_ (W3.heap.size) (by simp) 29 #[.int .i64 (prS xs0 fs0 a1), .slice Aw0 L0.length cw0]
  -- the program on copies that are kept
  have q0 := hS.cell 3 0 rfl rfl
  have q1 := hS.cell 3 1 rfl rfl
  go_wp2_with fail
  refine (toNetwork_own _ (h0I.out.grow hS.bl).strs (h0I.out.grow hS.bl).fibs (Nat.le_refl _) h0n h0m).mono ?_
  rintro e W4 ⟨Ax0, cx0, Ex0, dx0, rfl, ho, hb⟩
  replace hS := hS.net hb ho
  clear hb ho
  clear q0 q1
  replace hS := hS.blk_ (W4.heap.size) (by simp) 34 #[.slice Ax0 n0 cx0, .slice Ex0 m0 dx0]
  go_wp2_with fail
  refine (implParseRoute a1 _ (hS.netIs 1 rfl h0n h0m h0x) (HT.out.on hS.bl) (HE.out.on hS.bl) (HM.out.on hS.bl) h1n).mono ?_
  rintro e W5 ⟨Ag0, cg0, rfl, ho0, hb⟩
  rw [hL0] at ho0
  replace hS := hS.owns hb ho0
  clear hb ho0
  replace hS := hS.blk_ (W5.heap.size) (by simp) 29 #[.int .i64 (prS xs0 fs0 a1), .slice Ag0 L0.length cg0]
  -- the results are equal
  have q0 := hS.cell 4 0 rfl rfl
  have q1 := hS.cell 4 1 rfl rfl
  go_wp2_with fail
  refine (eqR_led hS 1 5 rfl rfl (prS xs0 fs0 a1) hlen0.out).mono ?_
  rintro e W6 ⟨rfl, hS1⟩; replace hS := hS1; clear hS1
  clear q0 q1
  -- the arguments are as they were
  have C0 : ∀ w', Cls W6 w' → w'.cell? ⟨w.heap.size, 0, none⟩ = some (.slice A0 n0 c0) := fun _ h => h.cell (hS.cell 7 0 rfl rfl)
  have C1 : ∀ w', Cls W6 w' → w'.cell? ⟨w.heap.size, 1, none⟩ = some (.slice E0 m0 d0) := fun _ h => h.cell (hS.cell 7 1 rfl rfl)
  have C2 : ∀ w', Cls W6 w' → w'.cell? ⟨W4.heap.size, 0, none⟩ = some (.slice Ax0 n0 cx0) := fun _ h => h.cell (hS.cell 2 0 rfl rfl)
  have C3 : ∀ w', Cls W6 w' → w'.cell? ⟨W4.heap.size, 1, none⟩ = some (.slice Ex0 m0 dx0) := fun _ h => h.cell (hS.cell 2 1 rfl rfl)
  have HL := hid (fun w' (h : Cls W6 w') => hS.step h)
  go_wp2_with fail
  go_region_held3 (fun w' => Cls W6 w') (first | exact Cls.drew _ | exact Cls.next (by assumption) (by assumption))
    (first
      | (go_at_call 6; refine (toNetwork_own _ (h0I.out.grow (HL.out _ (by assumption)).bl).strs (h0I.out.grow (HL.out _ (by assumption)).bl).fibs (Nat.le_refl _) h0n h0m).mono ?_; rintro e w' ⟨Ay0, cy0, Ey0, dy0, rfl, ho1, hb1⟩; have hL1 := (HL.out _ (by assumption)).net hb1 ho1)
      | (go_at_call 9; refine (eqN_led2 hL1 4 0 rfl rfl h0n h0m).mono ?_; rintro e w' ⟨rfl, hS2, hb2⟩))
  clear HL hL1 ho1 hb1 hb2 C0 C1 C2 C3
  replace hS := hS2.drop 1
  clear hS2
  dsimp only [List.drop] at hS
  generalize w' = W7 at *
  -- marks
  have q0 := hS.cell 2 0 rfl rfl
  have q1 := hS.cell 2 1 rfl rfl
  go_wp2_with fail
  refine (markN_led hS 3 rfl _ h0n h0m (by omega) (by omega)).mono ?_
  rintro e W8 ⟨rfl, hS1⟩; replace hS := hS1; clear hS1; dsimp only [List.set] at hS
  clear q0 q1
  have q0 := hS.cell 0 0 rfl rfl
  have q1 := hS.cell 0 1 rfl rfl
  have q2 := hS.cell 4 0 rfl rfl
  have q3 := hS.cell 4 1 rfl rfl
  go_wp2_with fail
  refine (eqR_led hS 1 5 rfl rfl (prS xs0 fs0 a1) hlen0.out).mono ?_
  rintro e W9 ⟨rfl, hS1⟩; replace hS := hS1; clear hS1
  clear q0 q1 q2 q3
  have q0 := hS.cell 0 0 rfl rfl
  have q1 := hS.cell 0 1 rfl rfl
  go_wp2_with fail
  refine (markR_led hS 1 rfl (prS xs0 fs0 a1) _ hlen0.out (by have := hlen0.out; omega) (by have := hlen0.out; omega)).mono ?_
  rintro e W10 ⟨rfl, hS1⟩; replace hS := hS1; clear hS1; dsimp only [List.set] at hS
  clear q0 q1
  have q0 := hS.cell 0 0 rfl rfl
  have q1 := hS.cell 0 1 rfl rfl
  go_wp2_with fail
  refine (heldR_led hS 1 (prS xs0 fs0 a1) _ rfl hlen0.out (by have := hlen0.out; omega) (by have := hlen0.out; omega)).mono ?_
  rintro e W11 ⟨rfl, hS1⟩; replace hS := hS1; clear hS1
  clear q0 q1
  -- once more
  have q0 := hS.cell 7 0 rfl rfl
  have q1 := hS.cell 7 1 rfl rfl
  go_wp2_with fail
  refine (toNetwork_own _ (h0I.out.grow hS.bl).strs (h0I.out.grow hS.bl).fibs (Nat.le_refl _) h0n h0m).mono ?_
  rintro e W12 ⟨Ah0, ch0, Eh0, dh0, rfl, ho, hb⟩
  replace hS := hS.net hb ho
  clear hb ho
  clear q0 q1
  go_wp2_with fail
  refine (implParseRoute a1 _ (hS.netIs 0 rfl h0n h0m h0x) (HT.out.on hS.bl) (HE.out.on hS.bl) (HM.out.on hS.bl) h1n).mono ?_
  rintro e W13 ⟨Ah0, ch0, rfl, ho0, hb⟩
  rw [hL0] at ho0
  replace hS := hS.owns hb ho0
  clear hb ho0
  replace hS := hS.blk_ (W13.heap.size) (by simp) 29 #[.int .i64 (prS xs0 fs0 a1), .slice Ah0 L0.length ch0]
  have q0 := hS.cell 7 0 rfl rfl
  have q1 := hS.cell 7 1 rfl rfl
  go_wp2_with fail
  refine (eqR_led hS 1 8 rfl rfl (prS xs0 fs0 a1) hlen0.out).mono ?_
  rintro e W14 ⟨rfl, hS1⟩; replace hS := hS1; clear hS1
  clear q0 q1
  have q0 := hS.cell 3 0 rfl rfl
  have q1 := hS.cell 3 1 rfl rfl
  go_wp2_with fail
  refine (heldR_led hS 4 (prS xs0 fs0 a1) _ rfl hlen0.out (by have := hlen0.out; omega) (by have := hlen0.out; omega)).mono ?_
  rintro e W15 ⟨rfl, hS1⟩; replace hS := hS1; clear hS1
  clear q0 q1
  go_wp2_with fail
  go_ret
  exact ⟨rfl, hS.bl⟩
end Go.Proofs.YtilklngkmdffbaaGreatDoor.fnExactParseRoute
