/- Lemmas and walks that the claim rests on, laid together. Conditions: none. -/
import Derived.Test.YtmkgicfgcoeilaaDoorZdb50fc3d8a8d
import Derived.Test.YtmkgicfgcoeilaaDoorZ53a7a774410d
import Derived.Test.YtmkgicfgcoeilaaDoorZ2b9016d1b45f
import Derived.Deep.RegionHeld
import Derived.Below
import Derived.Deep.RegionHeld3
/- Stores into a row of numbers of the ledger. Conditions: none. -/
namespace Go.Proofs.YtmkgicfgcoeilaaDoor
open Go.RowKit
section
variable {w0 w w' : World} {L : List Thing}
/-- A row of one element at least lies at a block's head. -/
theorem Led.row {α : Type} {E : El α} (h : Led w0 w L) (i : Nat) {base : Nat} {e : TypeId} {v : Value} {xs : List α} (hi : L[i]? = some (tOwns E base e v xs)) (hne : 0 < xs.length) : ∃ g c, v = .slice (some ⟨g, 0, none⟩) xs.length c := by
  rcases Owns.cases (h.own i hi) with ⟨_, h0⟩ | ⟨g, c, cur, hv, _⟩
  · rw [h0] at hne; simp at hne
  · exact ⟨g, c, hv⟩
theorem Led.row_ {α : Type} {E : El α} (h : Led w0 w L) (i : Nat) {base n : Nat} {e : TypeId} {v : Value} {xs : List α} (hi : L[i]? = some (tOwns E base e v xs)) (hn : xs.length = n) (hne : 0 < n) : ∃ g c, v = .slice (some ⟨g, 0, none⟩) n c := by
  subst hn; exact h.row i hi hne
theorem Led.int_at (h : Led w0 w L) (i : Nat) {base g c n : Nat} {xs : List Int} (hi : L[i]? = some (tOwns elInt base 3 (.slice (some ⟨g, 0, none⟩) n c) xs)) {j : Nat} (hj : j < xs.length) : w.cell? ⟨g, j, none⟩ = some (.int .i64 (valL xs j)) := by
  rcases Owns.cases (h.own i hi) with ⟨h0, _⟩ | ⟨g1, c1, cur, hv, _, hb, _, _, _, hf⟩
  · cases h0
  · injection hv with h1 h2 h3
    injection h1 with h1
    injection h1 with h1
    subst h1
    have := hf j _ hj (valL_get hj) 0 _ rfl
    rw [hb.cell]
    simpa [elInt] using this
theorem Led.int_free (h : Led w0 w L) (i : Nat) {base g c n : Nat} {xs : List Int} (hi : L[i]? = some (tOwns elInt base 3 (.slice (some ⟨g, 0, none⟩) n c) xs)) (j : Nat) : w.frozen? ⟨g, j, none⟩ = false := by
  rcases Owns.cases (h.own i hi) with ⟨h0, _⟩ | ⟨g1, c1, cur, hv, _, hb, _, _, _, hf⟩
  · cases h0
  · injection hv with h1 h2 h3
    injection h1 with h1
    injection h1 with h1
    subst h1
    exact hb.frozen j
/-- One number is stored. -/
theorem Led.int_set (h : Led w0 w L) (i : Nat) {base g c n : Nat} {xs : List Int} (hi : L[i]? = some (tOwns elInt base 3 (.slice (some ⟨g, 0, none⟩) n c) xs)) {j : Nat} (hj : j < xs.length) (x : Int) :
    Led w0 (w.setCell ⟨g, j, none⟩ (.int .i64 x)) (L.set i (tOwns elInt base 3 (.slice (some ⟨g, 0, none⟩) n c) (xs.set j x))) := by
  have ho := h.own i hi
  rcases Owns.cases ho with ⟨h0, _⟩ | ⟨g1, c1, cur, hv, hbase, hb, hnc, hcm, hs, hf⟩
  · cases h0
  · injection hv with h1 h2 h3
    injection h1 with h1
    injection h1 with h1
    subst h1
    subst h3
    refine h.touch i hi rfl (Touch.set (S := fun b => (Value.slice (some ⟨g, 0, none⟩) n c).ownBlock = some b) w (p := ⟨g, j, none⟩) rfl _) ?_
    show Owns elInt _ base 3 (.slice (some ⟨g, 0, none⟩) n c) (xs.set j x)
    rw [h2]
    refine Owns.of_blk (hb.set j _) hbase (by simp) hnc (by simp [hs]) hcm (fun k y hk hy i u hu => ?_)
    have hu' : [Value.int .i64 y][i]? = some u := hu
    match i, hu' with
    | 0, hu' =>
      simp at hu'; subst hu'
      have e : k * elInt.sz + 0 = k := by show k * 1 + 0 = k; omega
      rw [e]
      rw [List.getElem?_set] at hy
      by_cases hjk : j = k
      · subst hjk
        rw [if_pos rfl, if_pos hj] at hy
        injection hy with hy; subst hy
        have hlt : j < cur.size := by rw [hs]; show j < c * 1; omega
        rw [Array.getElem?_setIfInBounds_self_of_lt hlt]
      · rw [if_neg hjk] at hy
        rw [Array.getElem?_setIfInBounds_ne hjk]
        have := hf k y hk hy 0 _ rfl
        rw [e] at this
        exact this
    | i + 1, hu' => simp at hu'
end
theorem marks_succ (k : Int) (n : Nat) : marks k (n + 1) = marks k n ++ [k + (n : Int)] := by simp [marks, List.range_succ]
end Go.Proofs.YtmkgicfgcoeilaaDoor
/- SplitString of both sides, walked. Conditions: the string has at most 1048576 bytes. -/
namespace Go.Proofs.YtmkgicfgcoeilaaDoor
open Go.RowKit
set_option maxHeartbeats 2000000 in
set_option maxRecDepth 100000 in
theorem l1Split_any (s : ByteArray) (b : Int) (w : World) (hs : s.size ≤ 1048576) :
    Calls Tryd.prog 10 #[.string s, .int .u8 b] w fun e w' => ∃ v, e = .returned v ∧ Owns elStr w' w.heap.size 9 v (splA s b) ∧ Below w.heap.size w w' := by
  have hS := (Led.nil w).empty elStr 9 w.heap.size rfl w.heap.size (Nat.le_refl _)
  obtain ⟨i0, hi, hz0, hz1, hz2⟩ := info_parts str_info
  have HS : Hid (Led w (w.alloc (.cells #[] 9)) [tOwns elStr w.heap.size 9 (.slice (some ⟨w.heap.size, 0, none⟩) 0 0) (splT s b 0).1]) := hS
  have HA : Hid (splA s b = (splT s b s.size).1 ++ [s.extract (splT s b s.size).2 s.size]) := rfl
  clear hS
  go_enter Tryd.func10, Tryd.ntmps10
  go_wp2_with fail
  go_loopw [5, 6, 7] (fun v f i wr => ∃ k m : Nat, k ≤ s.size ∧ m ≤ k ∧ i = .int .i64 k ∧ f = .int .i64 m ∧ Hid (m = (splT s b k).2) ∧ Hid (Led w wr [tOwns elStr w.heap.size 9 v (splT s b k).1])) (fun _ _ i _ => s.size - (intOf i).toNat)
  case atStart => exact ⟨0, 0, Nat.zero_le _, Nat.le_refl _, rfl, rfl, rfl, HS⟩
  case round =>
    clear HS
    obtain ⟨k, m, hk, hm, rfl, rfl, HM, HS⟩ := hrel
    have hbd := splT_bd (s := s) (b := b) k
    obtain ⟨A3, c3, rfl, _⟩ := HS.out.form 0 rfl
    by_cases hlt : k < s.size
    · by_cases hb : (s[k].toNat : Int) = b
      · have HN : Hid (splT s b (k + 1) = ((splT s b k).1 ++ [s.extract m k], k + 1)) := by have := splT_yes hlt hb; rw [← HM.out] at this; exact this
        have hb2 : ((s[k].toNat : Int) == b) = true := by rw [hb]; exact beq_self_eq_true b
        have HS2 := hid (HS.out.blk_ wr.heap.size rfl 9 #[.string (s.extract m k)])
        clear hb HM
        go_wp2_with (first
          | (at_builtin; refine wpList_append_led rfl _ _ 22 rfl HS2.out 1 rfl Tryd.underlying22 hi hz0 hz1 (by rw [hz2]; decide) rfl rfl rfl (show Sees elStr _ _ _ 1 [s.extract m k] from sees_new elStr _ _ _ _ rfl) (by omega) HS2.out.bl.size ?_)
          | go_in)
        intro A2 c2 w7 hS5
        have hS6 := hid (hS5.drop 1)
        have HM2 : Hid (k + 1 = (splT s b (k + 1)).2) := by rw [HN.out]; rfl
        clear HS2 hS5
        go_wp2
        go_roundw
        case rel => exact ⟨k + 1, k + 1, by omega, Nat.le_refl _, by go_num, by go_num, HM2, by rw [HN.out]; exact hS6⟩
        case measure => simp [intOf]; omega
      · have HN : Hid (splT s b (k + 1) = splT s b k) := splT_no hlt hb
        have hb2 : ((s[k].toNat : Int) == b) = false := by rw [beq_eq_false_iff_ne]; exact hb
        clear hb
        go_wp2
        go_roundw
        case rel => exact ⟨k + 1, m, by omega, by omega, by go_num, rfl, by rw [HN.out]; exact HM, by rw [HN.out]; exact HS⟩
        case measure => simp [intOf]; omega
    · have hkm : k = s.size := by omega
      subst hkm
      have HS2 := hid (HS.out.blk_ wr.heap.size rfl 9 #[.string (s.extract m s.size)])
      go_wp2_with (first
        | (at_builtin; refine wpList_append_led rfl _ _ 22 rfl HS2.out 1 rfl Tryd.underlying22 hi hz0 hz1 (by rw [hz2]; decide) rfl rfl rfl (show Sees elStr _ _ _ 1 [s.extract m s.size] from sees_new elStr _ _ _ _ rfl) (by omega) HS2.out.bl.size ?_)
        | go_in)
      intro A2 c2 w7 hS5
      have hS6 := hid (hS5.drop 1)
      clear HS2 hS5
      go_wp2
      go_ret
      refine ⟨_, rfl, ?_, hS6.out.bl⟩
      rw [HA.out, ← HM.out]
      exact hS6.out.own 0 rfl
/-- The byte of a separator. -/
def sepB (sep : ByteArray) : Int := if h : 0 < sep.size then (sep[0].toNat : Int) else 0
def splOk (s sep : ByteArray) : Bool := decide (s.size ≤ 4000) && decide (sep.size = 1)
def splR (s sep : ByteArray) : List ByteArray := if splOk s sep then splA s (sepB sep) else []
end Go.Proofs.YtmkgicfgcoeilaaDoor
/- A drawn region whose last operation may break the condition on the worlds: the store into a cell that the region loads. Conditions: as each states. -/
namespace Go.Proofs.YtmkgicfgcoeilaaDoor
open Go.RowKit
section
variable {P : Program} {ops : Array Oper} {Q : Exit → Act → World → Prop} {md : Region.Mode} {S : World → Prop} {x : Nat}
/-- As 'wpAnyH', but behind operation x nothing is asked. -/
def wpAnyX (P : Program) (md : Region.Mode) (ops : Array Oper) (Q : Exit → Act → World → Prop) (S : World → Prop) (x : Nat) : Nat → Array Bool → Act → World → Prop
  | 0, listed, a, w => Region.ready md ops listed = [] ∧ Q .normal a w
  | fuel + 1, listed, a, w =>
    (Region.ready md ops listed = [] → Q .normal a w) ∧
    ∀ i ∈ Region.ready md ops listed, wpOp P ops Q i (fun a' w' => (i ≠ x → S w') ∧ wpAnyX P md ops Q S x fuel (listed.setIfInBounds i true) a' w') a w
theorem wpAny_of_X : ∀ (fuel : Nat) (listed : Array Bool) (a : Act) (w : World), wpAnyX P md ops Q S x fuel listed a w → wpAny P md ops Q fuel listed a w
  | 0, _, _, _, h => h
  | fuel + 1, _, _, _, h => ⟨h.1, fun i hi => wpOp_mono (fun a' w' h' => wpAny_of_X fuel _ a' w' h'.2) (h.2 i hi)⟩
/-- Operation x waits for operation i. -/
def waitsB (md : Region.Mode) (ops : Array Oper) (x i : Nat) : Bool := match ops[x]? with
  | some o => o.after.any (fun e => Region.binds md e && e.on == i)
  | none => true
theorem waits_not {listed : Array Bool} {i : Nat} (h : waitsB md ops x i = true) (hi : listed.getD i true = false) : x ∉ Region.ready md ops listed := by
  intro hx
  obtain ⟨_, o, ho, hall⟩ := mem_ready.1 hx
  unfold waitsB at h
  rw [ho] at h
  simp only [Array.any_eq_true'] at h
  obtain ⟨e, he, h2⟩ := h
  rw [Bool.and_eq_true, beq_iff_eq] at h2
  have h1 := hall e he h2.1
  rw [h2.2] at h1
  rcases Nat.lt_or_ge i listed.size with h' | h'
  · simp [h'] at hi h1; rw [hi] at h1; cases h1
  · simp [Array.getElem?_eq_none h'] at h1
theorem wpAnyX_first {i : Nat} {oi : Oper} {v : Value} (hi : ops[i]? = some oi) (hsel : ∀ (j : Nat) (o : Oper) cs b, ops[j]? = some o → o.op ≠ .select cs b)
    (hQ : ∀ c a w, Q (.panic c) (a.put oi.dst v) w → Q (.panic c) a w) (hx : waitsB md ops x i = true) :
    ∀ (fuel : Nat) (listed : Array Bool) (a : Act) (w : World),
      (∀ j oj, ops[j]? = some oj → j ≠ i → listed.getD j true = false → (∀ e ∈ oj.after, Region.binds md e = true → e.on ≠ i) → oi.apart ops oj = true) →
      i ∈ Region.ready md ops listed → YieldsIf P ops S oi v a → S w →
      wpAnyX P md ops Q S x fuel (listed.setIfInBounds i true) (a.put oi.dst v) w → wpAnyX P md ops Q S x (fuel + 1) listed a w := by
  intro fuel
  induction fuel with
  | zero =>
    intro listed a w _ hr hy hS H
    refine ⟨fun h => (by rw [h] at hr; cases hr), fun j hj => ?_⟩
    by_cases hji : j = i
    · subst hji; exact hy.wpOp hi hS ⟨fun _ => hS, H⟩
    · have := ready_mono hj hji
      rw [H.1] at this
      cases this
  | succ fuel ih =>
    intro listed a w hfree hr hy hS H
    refine ⟨fun h => (by rw [h] at hr; cases hr), fun j hj => ?_⟩
    by_cases hji : j = i
    · subst hji; exact hy.wpOp hi hS ⟨fun _ => hS, H⟩
    · have hjx : j ≠ x := fun e => waits_not hx (mem_ready.1 hr).1 (e ▸ hj)
      have h1 := H.2 j (ready_mono hj hji)
      obtain ⟨hjun, oj, hoj, hall⟩ := mem_ready.1 hj
      have hnot : ∀ e ∈ oj.after, Region.binds md e = true → e.on ≠ i := fun e he hb heq => by
        have h1 := hall e he hb
        have h0 := (mem_ready.1 hr).1
        rw [heq] at h1
        rcases Nat.lt_or_ge i listed.size with h' | h'
        · simp [h'] at h0 h1; rw [h0] at h1; cases h1
        · simp [Array.getElem?_eq_none h'] at h1
      have h2 := wpOp_putIf hoj (hfree j oj hoj hji hjun hnot) (fun cs b => hsel i oi cs b hi) (fun cs b => hsel j oj cs b hoj) hQ hy h1
      have hfree' : ∀ k ok, ops[k]? = some ok → k ≠ i → (listed.setIfInBounds j true).getD k true = false →
          (∀ e ∈ ok.after, Region.binds md e = true → e.on ≠ i) → oi.apart ops ok = true := fun k ok hk hki hun hno => by
        refine hfree k ok hk hki ?_ hno
        by_cases hjk : j = k
        · subst hjk; exact hjun
        · rw [getD_set_ne true hjk] at hun; exact hun
      refine wpOp_mono (fun a' w' h3 => ⟨fun _ => h3.2.1 hjx, ih (listed.setIfInBounds j true) a' w' hfree' (ready_mono hr (Ne.symm hji)) h3.1 (h3.2.1 hjx) ?_⟩) h2
      rw [Array.setIfInBounds_comm _ _ hji]
      exact h3.2.2
theorem wpAnyX_take {i : Nat} {oi : Oper} {v : Value} {fuel : Nat} {listed : Array Bool} {a : Act} {w : World} (hi : ops[i]? = some oi)
    (hs : Region.noSelect ops = true) (hf : Region.free md ops listed i = true) (hr : (Region.ready md ops listed).contains i = true) (hx : waitsB md ops x i = true)
    (hQ : ∀ c a w, Q (.panic c) (a.put oi.dst v) w → Q (.panic c) a w) (hy : YieldsIf P ops S oi v a) (hS : S w)
    (h : wpAnyX P md ops Q S x fuel (listed.setIfInBounds i true) (a.put oi.dst v) w) : wpAnyX P md ops Q S x (fuel + 1) listed a w :=
  wpAnyX_first hi (Region.noSelect_spec hs) hQ hx fuel listed a w (Region.free_spec hi hf) (by simpa using hr) hy hS h
theorem wpAnyX_done {listed : Array Bool} {a : Act} {w : World} (hr : Region.ready md ops listed = []) (h : Q .normal a w) :
    ∀ fuel, wpAnyX P md ops Q S x fuel listed a w
  | 0 => ⟨hr, h⟩
  | _ + 1 => ⟨fun _ => h, by rw [hr]; simp⟩
def AllReadyX (P : Program) (md : Region.Mode) (ops : Array Oper) (Q : Exit → Act → World → Prop) (S : World → Prop) (x fuel : Nat) (listed : Array Bool) (a : Act) (w : World) (rs : List Nat) : Prop :=
  ∀ i ∈ rs, wpOp P ops Q i (fun a' w' => (i ≠ x → S w') ∧ wpAnyX P md ops Q S x fuel (listed.setIfInBounds i true) a' w') a w
theorem AllReadyX.nil {fuel : Nat} {listed : Array Bool} {a : Act} {w : World} : AllReadyX P md ops Q S x fuel listed a w [] := fun _ h => by cases h
theorem AllReadyX.cons {fuel : Nat} {listed : Array Bool} {a : Act} {w : World} {i : Nat} {o : Oper} {rs : List Nat} (ho : ops[i]? = some o)
    (h : ∀ K' : Act → World → Prop, Shut (∀ a w, S w → (S w → wpAnyX P md ops Q S x fuel (listed.setIfInBounds i true) a w) → K' a w) → if Region.wanted o (yielded ops a.tmps) = true then Oper.wp P o a w K' Q else K' (a.put o.dst undef) w)
    (hs : AllReadyX P md ops Q S x fuel listed a w rs) : AllReadyX P md ops Q S x fuel listed a w (i :: rs) := fun j hj => by
  rcases List.mem_cons.1 hj with rfl | hj
  · exact wpOp_step ho (fun K' hK => h K' (fun a w hS hW => hK a w ⟨fun _ => hS, hW hS⟩))
  · exact hs j hj
/-- The operation behind which nothing is asked. -/
theorem AllReadyX.last {fuel : Nat} {listed : Array Bool} {a : Act} {w : World} {o : Oper} (ho : ops[x]? = some o)
    (h : ∀ K' : Act → World → Prop, Shut (∀ a w, wpAnyX P md ops Q S x fuel (listed.setIfInBounds x true) a w → K' a w) → if Region.wanted o (yielded ops a.tmps) = true then Oper.wp P o a w K' Q else K' (a.put o.dst undef) w) : AllReadyX P md ops Q S x fuel listed a w [x] := fun j hj => by
  rcases List.mem_cons.1 hj with rfl | hj
  · exact wpOp_step ho (fun K' hK => h K' (fun a w hW => hK a w ⟨fun e => absurd rfl e, hW⟩))
  · cases hj
theorem wpAnyX_ready {rs : List Nat} {fuel : Nat} {listed : Array Bool} {a : Act} {w : World} (hr : Region.ready md ops listed = rs) (hne : rs ≠ [])
    (h : AllReadyX P md ops Q S x fuel listed a w rs) : wpAnyX P md ops Q S x (fuel + 1) listed a w := ⟨fun h0 => absurd (hr ▸ h0) hne, hr ▸ h⟩
theorem wp_region_heldX (x : Nat) (S : World → Prop) {id : Nat} {a : Act} {w : World} (hm : P.follows .mixedOrders = true) (hS : S w.drew)
    (h : S w.drew → wpAnyX P .any ops Q S x ops.size (Array.replicate ops.size false) a w.drew) : (Code.region id ops true).wp P Q a w :=
  wp_region_any hm (wpAny_of_X _ _ _ _ (h hS))
end
end Go.Proofs.YtmkgicfgcoeilaaDoor
/- Things of a ledger, picked and put into another order. Conditions: none. -/
namespace Go.Proofs.YtmkgicfgcoeilaaDoor
open Go.RowKit
/-- A proposition kept apart (no assumption is taken for it). -/
structure Kept (P : Prop) : Prop where
  out : P
theorem share {P G : Prop} (k : Kept P → G) (h : P) : G := k ⟨h⟩
theorem Led.pick {w0 w : World} {L : List Thing} (h : Led w0 w L) (is : List Nat) (hn : is.Nodup) (he : is.all (fun i => decide (i < L.length)) = true) : Led w0 w (is.filterMap fun i => L[i]?) := by
  have hm : is.map (fun i => L[i]?) = (is.filterMap fun i => L[i]?).map some := by
    clear hn
    induction is with
    | nil => rfl
    | cons x is ih =>
      rw [List.all_cons, Bool.and_eq_true, decide_eq_true_eq] at he
      rw [List.map_cons, List.filterMap_cons, List.getElem?_eq_getElem he.1, ih he.2]
      rfl
  have key : ∀ (i : Nat) t, (is.filterMap fun i => L[i]?)[i]? = some t → ∃ k, is[i]? = some k ∧ L[k]? = some t := fun i t ht => by
    have h1 : (is.map (fun i => L[i]?))[i]? = some (some t) := by rw [hm, List.getElem?_map, ht]; rfl
    rw [List.getElem?_map] at h1
    cases hk : is[i]? with
    | none => rw [hk] at h1; cases h1
    | some k =>
      rw [hk] at h1
      injection h1 with h1
      exact ⟨k, rfl, h1⟩
  refine ⟨h.bl, fun i t ht => ?_, fun i j a b hij ha hb => ?_⟩
  · obtain ⟨k, _, hk⟩ := key i t ht
    exact h.all k t hk
  · obtain ⟨k, hk1, hk⟩ := key i a ha
    obtain ⟨l, hl1, hl⟩ := key j b hb
    exact h.apart k l a b (fun e => hij (by
      subst e
      exact (List.getElem?_inj (List.getElem?_eq_some_iff.1 hk1).1 hn).1 (hk1.trans hl1.symm))) hk hl
end Go.Proofs.YtmkgicfgcoeilaaDoor
/- A network copied: copyNetwork, l2Own, walked. Conditions: none. -/
namespace Go.Proofs.YtmkgicfgcoeilaaDoor
open Go.RowKit
/-- A network that owns its rows, out of the ledger. -/
theorem Led.netOwn2 {w0 w : World} {L : List Thing} (h : Led w0 w L) (i j : Nat) {b0 b1 b2 : Nat} {A A' : Option Addr} {n c m d : Nat} {xs : List ByteArray} {fs : List Fib} (hi : L[i]? = some (tOwns elStr b1 9 (.slice A n c) xs)) (hj : L[j]? = some (tOwns elFib b2 39 (.slice A' m d) fs))
    (hn : n = xs.length) (hm : m = fs.length) (hb1 : b0 ≤ b1) (hb2 : b0 ≤ b2) : NetOwn w b0 A n c A' m d xs fs := by
  have h1 := (h.own i hi).base hb1
  have h2 := (h.own j hj).base hb2
  obtain ⟨_, _, e1, a1, a2, _⟩ := h1.form
  obtain ⟨_, _, e2, b1, b2, _⟩ := h2.form
  injection e1 with _ e3 e4
  injection e2 with _ e5 e6
  exact ⟨by omega, by omega, by omega, by omega, hn.symm, hm.symm, h1, h2⟩
/-- What was made in two stretches. -/
theorem Led.join {w0 w w' : World} {L M : List Thing} (h : Led w0 w L) (k : Led w w' M) : Led w0 w' (M ++ L) := by
  have h' := h.step k.bl
  have hlo : ∀ (i : Nat) t, L[i]? = some t → ∀ b, t.S b → b < w.heap.size := fun i t hi b hb => t.lies w (h.all i t hi).1 b hb
  refine ⟨h'.bl, fun i t ht => ?_, fun i j a b hij ha hb x h1 h2 => ?_⟩
  · rw [List.getElem?_append] at ht
    split at ht
    · exact ⟨(k.all i t ht).1, fun b hb => Nat.le_trans h.bl.size ((k.all i t ht).2 b hb)⟩
    · exact h'.all _ t ht
  · rw [List.getElem?_append] at ha hb
    split at ha <;> split at hb
    · exact k.apart i j a b hij ha hb x h1 h2
    · have e1 := (k.all i a ha).2 x h1
      have e2 := hlo _ b hb x h2
      omega
    · have e1 := (k.all j b hb).2 x h2
      have e2 := hlo _ a ha x h1
      omega
    · exact h'.apart _ _ a b (by omega) ha hb x h1 h2
section
variable {n c m d : Nat} {A A' : Option Addr} {xs : List ByteArray} {fs : List Fib}
set_option maxHeartbeats 2000000 in
set_option maxRecDepth 100000 in
theorem copyNetwork_any (w : World) (h : NetIs w A n c A' m d xs fs) :
    Calls Tryd.prog 16 #[.agg #[.slice A n c, .slice A' m d]] w fun e w' => ∃ A1 c1 A2 c2, e = .returned (.agg #[.slice A1 n c1, .slice A2 m c2]) ∧ Led w w' [tOwns elStr w.heap.size 9 (.slice A1 n c1) xs, tOwns elFib w.heap.size 39 (.slice A2 m c2) fs] := by
  have hS := ((Led.nil w).blk_ w.heap.size rfl 25 #[.slice A n c, .slice A' m d]).blk_ (w.heap.size + 1) (by simp) 25 #[.slice none 0 0, .slice none 0 0]
  obtain ⟨j0, hj, hy0, hy1, hy2⟩ := info_parts fib_info
  obtain ⟨t0, ht, hx0, hx1, hx2⟩ := info_parts str_info
  have HN := hid h
  have hlx := hid h.xlen
  have hlf := hid h.flen
  have hnn := h.nle
  have hmm := h.mle
  clear h
  go_enter Tryd.func16, Tryd.ntmps16
  go_wp2_with fail
  generalize (w.alloc (.cells #[.slice A n c, .slice A' m d] 25)).alloc (.cells #[.slice none 0 0, .slice none 0 0] 25) = W0 at *
  have C0 : ∀ w', Led w w' [tBlk w.heap.size 25 #[.slice A n c, .slice A' m d]] → w'.cell? ⟨w.heap.size, 0, none⟩ = some (.slice A n c) := fun _ h => h.cell 0 0 rfl rfl
  have C1 : ∀ w', Led w w' [tBlk w.heap.size 25 #[.slice A n c, .slice A' m d]] → w'.cell? ⟨w.heap.size, 1, none⟩ = some (.slice A' m d) := fun _ h => h.cell 0 1 rfl rfl
  refine wp_region_held_drew (S := fun w' => Led w w' [tBlk w.heap.size 25 #[.slice A n c, .slice A' m d]]) (by kernel_rfl) ((hS.step (Cls.drew _)).drop 1) (fun hHeld => ?_)
  refine wpAnyH_take (i := 1) (oi := _) (v := ?_) rfl (by kernel_rfl) (by kernel_rfl) (by kernel_rfl) (fun _ _ _ h => h) (Or.inl ⟨by rfl, ?_⟩) (by assumption) ?_
  rotate_left
  · intro w hSw; go_simp; with_reducible rfl
  simp only [Act.put, List.getElem_toArray, List.getElem_cons_zero, List.getElem_cons_succ, List.setIfInBounds_toArray, List.set_cons_zero, List.set_cons_succ]
  refine wpAnyH_take (i := 2) (oi := _) (v := ?_) rfl (by kernel_rfl) (by kernel_rfl) (by kernel_rfl) (fun _ _ _ h => h) (Or.inl ⟨by rfl, ?_⟩) (by assumption) ?_
  rotate_left
  · intro w hSw; go_simp; with_reducible rfl
  simp only [Act.put, List.getElem_toArray, List.getElem_cons_zero, List.getElem_cons_succ, List.setIfInBounds_toArray, List.set_cons_zero, List.set_cons_succ]
  refine wpAnyH_take (i := 5) (oi := _) (v := ?_) rfl (by kernel_rfl) (by kernel_rfl) (by kernel_rfl) (fun _ _ _ h => h) (Or.inl ⟨by rfl, ?_⟩) (by assumption) ?_
  rotate_left
  · intro w hSw; go_simp; with_reducible rfl
  simp only [Act.put, List.getElem_toArray, List.getElem_cons_zero, List.getElem_cons_succ, List.setIfInBounds_toArray, List.set_cons_zero, List.set_cons_succ]
  refine wpAnyH_take (i := 6) (oi := _) (v := ?_) rfl (by kernel_rfl) (by kernel_rfl) (by kernel_rfl) (fun _ _ _ h => h) (Or.inl ⟨by rfl, ?_⟩) (by assumption) ?_
  rotate_left
  · intro w hSw; go_simp; with_reducible rfl
  simp only [Act.put, List.getElem_toArray, List.getElem_cons_zero, List.getElem_cons_succ, List.setIfInBounds_toArray, List.set_cons_zero, List.set_cons_succ]
  refine wpAnyH_ready (rs := [0, 4]) (by kernel_rfl) (by simp) ?_
  refine AllReadyH.cons rfl (fun K hK => ?_) ?_
  · skip
    have a1 := (hS.empty elStr 9 (W0.heap.size) rfl w.heap.size (by have := hS.bl.size; first | omega | (have := h1.bl.size; omega))).step (Cls.drew _)
    go_simp
    go_wp2_with fail
    refine hK.out _ _ (a1.drop 2) (fun hHeld => ?_)
    clear hK K
    try simp only [Act.put, List.getElem_toArray, List.getElem_cons_zero, List.getElem_cons_succ, List.setIfInBounds_toArray, List.set_cons_zero, List.set_cons_succ]
    refine wpAnyH_ready (rs := [3, 4]) (by kernel_rfl) (by simp) ?_
    refine AllReadyH.cons rfl (fun K hK => ?_) ?_
    · skip
      refine step_append_led rfl _ _ 22 rfl a1 0 rfl Tryd.underlying22 ht hx0 hx1 (by rw [hx2]; decide) rfl rfl rfl (HN.out.grow a1.bl).strs (by simp; omega) a1.bl.size ?_
      intro AS cS wS h1
      simp only [List.length_nil, Nat.zero_add, List.nil_append] at h1 ⊢
      refine hK.out _ _ (h1.drop 2) (fun hHeld => ?_)
      clear hK K
      try simp only [Act.put, List.getElem_toArray, List.getElem_cons_zero, List.getElem_cons_succ, List.setIfInBounds_toArray, List.set_cons_zero, List.set_cons_succ]
      refine wpAnyH_ready (rs := [4]) (by kernel_rfl) (by simp) ?_
      refine AllReadyH.cons rfl (fun K hK => ?_) AllReadyH.nil
      have a2 := h1.empty elFib 39 (wS.heap.size) rfl w.heap.size (by have := hS.bl.size; first | omega | (have := h1.bl.size; omega))
      go_simp
      go_wp2_with fail
      refine hK.out _ _ (a2.drop 3) (fun hHeld => ?_)
      clear hK K
      try simp only [Act.put, List.getElem_toArray, List.getElem_cons_zero, List.getElem_cons_succ, List.setIfInBounds_toArray, List.set_cons_zero, List.set_cons_succ]
      refine wpAnyH_ready (rs := [7]) (by kernel_rfl) (by simp) ?_
      refine AllReadyH.cons rfl (fun K hK => ?_) AllReadyH.nil
      refine step_append_led rfl _ _ 23 rfl a2 0 rfl Tryd.underlying23 hj hy0 hy1 (by rw [hy2]; decide) rfl rfl rfl (HN.out.grow a2.bl).fibs (by simp; omega) a2.bl.size ?_
      intro AF cF wF h2
      simp only [List.length_nil, Nat.zero_add, List.nil_append] at h2 ⊢
      refine hK.out _ _ (h2.drop 3) (fun hHeld => ?_)
      clear hK K
      try simp only [Act.put, List.getElem_toArray, List.getElem_cons_zero, List.getElem_cons_succ, List.setIfInBounds_toArray, List.set_cons_zero, List.set_cons_succ]
      refine wpAnyH_take (i := 8) (oi := _) (v := ?_) rfl (by kernel_rfl) (by kernel_rfl) (by kernel_rfl) (fun _ _ _ h => h) (Or.inl ⟨by rfl, ?_⟩) (by assumption) ?_
      rotate_left
      · intro w hSw; go_simp; with_reducible rfl
      simp only [Act.put, List.getElem_toArray, List.getElem_cons_zero, List.getElem_cons_succ, List.setIfInBounds_toArray, List.set_cons_zero, List.set_cons_succ]
      have q0 := h2.cell 2 0 rfl rfl
      have z0 := h2.frozen 2 0 rfl
      have q1 := h2.cell 2 1 rfl rfl
      have z1 := h2.frozen 2 1 rfl
      have HE := hid ((h2.set 2 rfl 0 (.slice AS n cS)).set 2 rfl 1 (.slice AF m cF))
      refine wpAnyH_ready (rs := [9]) (by kernel_rfl) (by simp) ?_
      refine AllReadyH.cons rfl (fun K hK => ?_) AllReadyH.nil
      go_simp
      go_wp2_with fail
      refine hK.out _ _ (HE.out.drop 3) (fun hHeld => ?_)
      clear hK K
      try simp only [Act.put, List.getElem_toArray, List.getElem_cons_zero, List.getElem_cons_succ, List.setIfInBounds_toArray, List.set_cons_zero, List.set_cons_succ]
      refine wpAnyH_done (by kernel_rfl) ?_ _
      have y0 := HE.out.cell 2 0 rfl rfl
      have y1 := HE.out.cell 2 1 rfl rfl
      have hP := HE.out.pick [1, 0] (by decide) rfl
      simp only [List.filterMap_cons, List.filterMap_nil, List.getElem?_cons_zero, List.getElem?_cons_succ, List.set_cons_zero, List.set_cons_succ] at hP
      have HP := hid hP
      clear q0 q1 z0 z1 C0 C1 hP
      go_wp2
      exact bodyPost_ret (v := .agg #[.slice AS n cS, .slice AF m cF]) (by simp [results, Tryd.results16, go_sem, y0, y1]) rfl ⟨AS, cS, AF, cF, rfl, HP.out⟩
    · skip
      refine AllReadyH.cons rfl (fun K hK => ?_) AllReadyH.nil
      have a2 := ((hS.empty elStr 9 (W0.heap.size) rfl w.heap.size (by have := hS.bl.size; first | omega | (have := h1.bl.size; omega))).empty elFib 39 (W0.heap.size + 1) (by simp) w.heap.size (by have := hS.bl.size; first | omega | (have := h1.bl.size; omega))).step (Cls.drew _)
      go_simp
      go_wp2_with fail
      refine hK.out _ _ (a2.drop 3) (fun hHeld => ?_)
      clear hK K
      try simp only [Act.put, List.getElem_toArray, List.getElem_cons_zero, List.getElem_cons_succ, List.setIfInBounds_toArray, List.set_cons_zero, List.set_cons_succ]
      refine wpAnyH_ready (rs := [3]) (by kernel_rfl) (by simp) ?_
      refine AllReadyH.cons rfl (fun K hK => ?_) AllReadyH.nil
      refine step_append_led rfl _ _ 22 rfl a2 1 rfl Tryd.underlying22 ht hx0 hx1 (by rw [hx2]; decide) rfl rfl rfl (HN.out.grow a2.bl).strs (by simp; omega) a2.bl.size ?_
      intro AS cS wS h1
      simp only [List.length_nil, Nat.zero_add, List.nil_append] at h1 ⊢
      refine hK.out _ _ (h1.drop 3) (fun hHeld => ?_)
      clear hK K
      try simp only [Act.put, List.getElem_toArray, List.getElem_cons_zero, List.getElem_cons_succ, List.setIfInBounds_toArray, List.set_cons_zero, List.set_cons_succ]
      refine wpAnyH_ready (rs := [7]) (by kernel_rfl) (by simp) ?_
      refine AllReadyH.cons rfl (fun K hK => ?_) AllReadyH.nil
      refine step_append_led rfl _ _ 23 rfl h1 0 rfl Tryd.underlying23 hj hy0 hy1 (by rw [hy2]; decide) rfl rfl rfl (HN.out.grow h1.bl).fibs (by simp; omega) h1.bl.size ?_
      intro AF cF wF h2
      simp only [List.length_nil, Nat.zero_add, List.nil_append] at h2 ⊢
      refine hK.out _ _ (h2.drop 3) (fun hHeld => ?_)
      clear hK K
      try simp only [Act.put, List.getElem_toArray, List.getElem_cons_zero, List.getElem_cons_succ, List.setIfInBounds_toArray, List.set_cons_zero, List.set_cons_succ]
      refine wpAnyH_take (i := 8) (oi := _) (v := ?_) rfl (by kernel_rfl) (by kernel_rfl) (by kernel_rfl) (fun _ _ _ h => h) (Or.inl ⟨by rfl, ?_⟩) (by assumption) ?_
      rotate_left
      · intro w hSw; go_simp; with_reducible rfl
      simp only [Act.put, List.getElem_toArray, List.getElem_cons_zero, List.getElem_cons_succ, List.setIfInBounds_toArray, List.set_cons_zero, List.set_cons_succ]
      have q0 := h2.cell 2 0 rfl rfl
      have z0 := h2.frozen 2 0 rfl
      have q1 := h2.cell 2 1 rfl rfl
      have z1 := h2.frozen 2 1 rfl
      have HE := hid ((h2.set 2 rfl 0 (.slice AS n cS)).set 2 rfl 1 (.slice AF m cF))
      refine wpAnyH_ready (rs := [9]) (by kernel_rfl) (by simp) ?_
      refine AllReadyH.cons rfl (fun K hK => ?_) AllReadyH.nil
      go_simp
      go_wp2_with fail
      refine hK.out _ _ (HE.out.drop 3) (fun hHeld => ?_)
      clear hK K
      try simp only [Act.put, List.getElem_toArray, List.getElem_cons_zero, List.getElem_cons_succ, List.setIfInBounds_toArray, List.set_cons_zero, List.set_cons_succ]
      refine wpAnyH_done (by kernel_rfl) ?_ _
      have y0 := HE.out.cell 2 0 rfl rfl
      have y1 := HE.out.cell 2 1 rfl rfl
      have hP := HE.out.pick [1, 0] (by decide) rfl
      simp only [List.filterMap_cons, List.filterMap_nil, List.getElem?_cons_zero, List.getElem?_cons_succ, List.set_cons_zero, List.set_cons_succ] at hP
      have HP := hid hP
      clear q0 q1 z0 z1 C0 C1 hP
      go_wp2
      exact bodyPost_ret (v := .agg #[.slice AS n cS, .slice AF m cF]) (by simp [results, Tryd.results16, go_sem, y0, y1]) rfl ⟨AS, cS, AF, cF, rfl, HP.out⟩
  · skip
    refine AllReadyH.cons rfl (fun K hK => ?_) AllReadyH.nil
    have a1 := (hS.empty elFib 39 (W0.heap.size) rfl w.heap.size (by have := hS.bl.size; first | omega | (have := h1.bl.size; omega))).step (Cls.drew _)
    go_simp
    go_wp2_with fail
    refine hK.out _ _ (a1.drop 2) (fun hHeld => ?_)
    clear hK K
    try simp only [Act.put, List.getElem_toArray, List.getElem_cons_zero, List.getElem_cons_succ, List.setIfInBounds_toArray, List.set_cons_zero, List.set_cons_succ]
    refine wpAnyH_ready (rs := [0]) (by kernel_rfl) (by simp) ?_
    refine AllReadyH.cons rfl (fun K hK => ?_) AllReadyH.nil
    have a2 := ((hS.empty elFib 39 (W0.heap.size) rfl w.heap.size (by have := hS.bl.size; first | omega | (have := h1.bl.size; omega))).empty elStr 9 (W0.heap.size + 1) (by simp) w.heap.size (by have := hS.bl.size; first | omega | (have := h1.bl.size; omega))).step (Cls.drew _)
    go_simp
    go_wp2_with fail
    refine hK.out _ _ (a2.drop 3) (fun hHeld => ?_)
    clear hK K
    try simp only [Act.put, List.getElem_toArray, List.getElem_cons_zero, List.getElem_cons_succ, List.setIfInBounds_toArray, List.set_cons_zero, List.set_cons_succ]
    refine wpAnyH_ready (rs := [3]) (by kernel_rfl) (by simp) ?_
    refine AllReadyH.cons rfl (fun K hK => ?_) AllReadyH.nil
    refine step_append_led rfl _ _ 22 rfl a2 0 rfl Tryd.underlying22 ht hx0 hx1 (by rw [hx2]; decide) rfl rfl rfl (HN.out.grow a2.bl).strs (by simp; omega) a2.bl.size ?_
    intro AS cS wS h1
    simp only [List.length_nil, Nat.zero_add, List.nil_append] at h1 ⊢
    refine hK.out _ _ (h1.drop 3) (fun hHeld => ?_)
    clear hK K
    try simp only [Act.put, List.getElem_toArray, List.getElem_cons_zero, List.getElem_cons_succ, List.setIfInBounds_toArray, List.set_cons_zero, List.set_cons_succ]
    refine wpAnyH_ready (rs := [7]) (by kernel_rfl) (by simp) ?_
    refine AllReadyH.cons rfl (fun K hK => ?_) AllReadyH.nil
    refine step_append_led rfl _ _ 23 rfl h1 1 rfl Tryd.underlying23 hj hy0 hy1 (by rw [hy2]; decide) rfl rfl rfl (HN.out.grow h1.bl).fibs (by simp; omega) h1.bl.size ?_
    intro AF cF wF h2
    simp only [List.length_nil, Nat.zero_add, List.nil_append] at h2 ⊢
    refine hK.out _ _ (h2.drop 3) (fun hHeld => ?_)
    clear hK K
    try simp only [Act.put, List.getElem_toArray, List.getElem_cons_zero, List.getElem_cons_succ, List.setIfInBounds_toArray, List.set_cons_zero, List.set_cons_succ]
    refine wpAnyH_take (i := 8) (oi := _) (v := ?_) rfl (by kernel_rfl) (by kernel_rfl) (by kernel_rfl) (fun _ _ _ h => h) (Or.inl ⟨by rfl, ?_⟩) (by assumption) ?_
    rotate_left
    · intro w hSw; go_simp; with_reducible rfl
    simp only [Act.put, List.getElem_toArray, List.getElem_cons_zero, List.getElem_cons_succ, List.setIfInBounds_toArray, List.set_cons_zero, List.set_cons_succ]
    have q0 := h2.cell 2 0 rfl rfl
    have z0 := h2.frozen 2 0 rfl
    have q1 := h2.cell 2 1 rfl rfl
    have z1 := h2.frozen 2 1 rfl
    have HE := hid ((h2.set 2 rfl 0 (.slice AS n cS)).set 2 rfl 1 (.slice AF m cF))
    refine wpAnyH_ready (rs := [9]) (by kernel_rfl) (by simp) ?_
    refine AllReadyH.cons rfl (fun K hK => ?_) AllReadyH.nil
    go_simp
    go_wp2_with fail
    refine hK.out _ _ (HE.out.drop 3) (fun hHeld => ?_)
    clear hK K
    try simp only [Act.put, List.getElem_toArray, List.getElem_cons_zero, List.getElem_cons_succ, List.setIfInBounds_toArray, List.set_cons_zero, List.set_cons_succ]
    refine wpAnyH_done (by kernel_rfl) ?_ _
    have y0 := HE.out.cell 2 0 rfl rfl
    have y1 := HE.out.cell 2 1 rfl rfl
    have hP := HE.out.pick [0, 1] (by decide) rfl
    simp only [List.filterMap_cons, List.filterMap_nil, List.getElem?_cons_zero, List.getElem?_cons_succ, List.set_cons_zero, List.set_cons_succ] at hP
    have HP := hid hP
    clear q0 q1 z0 z1 C0 C1 hP
    go_wp2
    exact bodyPost_ret (v := .agg #[.slice AS n cS, .slice AF m cF]) (by simp [results, Tryd.results16, go_sem, y0, y1]) rfl ⟨AS, cS, AF, cF, rfl, HP.out⟩
end
end Go.Proofs.YtmkgicfgcoeilaaDoor
