/- slices.Max; IsConnected of both sides; walked. Conditions: as each states. -/
import Derived.Test.YtdnmkcalpfkfhaaCompOf
namespace Go.Proofs.Ytdnmkcalpfkfhaa
open Go.RowKit
/-- M is the greatest of the first k. -/
def maxAt (l : List Int) (k : Nat) (M : Int) : Prop := M ∈ l.take k ∧ ∀ x ∈ l.take k, x ≤ M
theorem maxAt_one {l : List Int} {x : Int} (h : l[0]? = some x) : maxAt l 1 x := by
  cases l with
  | nil => simp at h
  | cons y l => simp at h; subst h; simp [maxAt]
theorem maxAt_old {l : List Int} {k : Nat} {M x : Int} (h : maxAt l k M) (hx : l[k]? = some x) (hle : x ≤ M) : maxAt l (k + 1) M := by
  unfold maxAt at *
  rw [List.take_add_one, hx]
  refine ⟨by simp [h.1], fun y hy => ?_⟩
  simp at hy
  rcases hy with hy | rfl
  · exact h.2 y hy
  · exact hle
theorem maxAt_new {l : List Int} {k : Nat} {M x : Int} (h : maxAt l k M) (hx : l[k]? = some x) (hle : M ≤ x) : maxAt l (k + 1) x := by
  unfold maxAt at *
  rw [List.take_add_one, hx]
  refine ⟨by simp, fun y hy => ?_⟩
  simp at hy
  rcases hy with hy | rfl
  · exact Int.le_trans (h.2 y hy) hle
  · exact Int.le_refl _
set_option maxHeartbeats 1000000 in
set_option maxRecDepth 100000 in
theorem max_any {B c : Nat} {A : Option Addr} {l : List Int} (w : World) (hA : Sees elInt w B A l.length l) (h0 : 0 < l.length) (hn : l.length ≤ 1048576) :
    Calls Try.prog 100 #[.slice A l.length c] w fun e w' => ∃ M, e = .returned (.int .i64 M) ∧ maxAt l l.length M ∧ w = w' := by
  obtain ⟨b, o, rfl, _, hc⟩ := hA.at_ h0
  obtain ⟨x, hx0⟩ := get_of (l := l) (k := 0) rfl h0
  have e0 := hc 0 x hx0 0 _ rfl
  simp only [elInt, Nat.zero_mul, Nat.add_zero] at e0
  have HM := hid (maxAt_one hx0)
  have HC := hid hc
  clear hc hx0
  go_enter Try.func100, Try.ntmps100
  go_wp2
  go_loop [3, 4] (fun t i => ∃ (k : Nat) (M : Int), 1 ≤ k ∧ k ≤ l.length ∧ i = .int .i64 k ∧ t = .int .i64 M ∧ Hid (maxAt l k M)) (fun _ i => l.length - (intOf i).toNat)
  case atStart => exact ⟨1, x, Nat.le_refl _, h0, rfl, rfl, HM⟩
  case round =>
    clear HM
    obtain ⟨k, M, hk1, hk, rfl, rfl, hM⟩ := hrel
    by_cases hlt : k < l.length
    · obtain ⟨y, hyk⟩ := get_of (l := l) (k := k) rfl hlt
      have e1 := HC.out k y hyk 0 _ rfl
      simp only [elInt, Nat.mul_one, Nat.add_zero] at e1
      rcases Int.lt_or_le M y with hle | hle
      · have HN := hid (maxAt_new hM.out hyk (Int.le_of_lt hle))
        clear hyk hM
        go_wp2
        exact ⟨⟨k + 1, y, by omega, by omega, by go_num, rfl, HN⟩, by simp [intOf]; omega⟩
      · have HN := hid (maxAt_old hM.out hyk hle)
        clear hyk hM
        go_wp2
        exact ⟨⟨k + 1, M, by omega, by omega, by go_num, rfl, HN⟩, by simp [intOf]; omega⟩
    · have hkl : k = l.length := by omega
      have HE : Hid (maxAt l l.length M) := by rw [← hkl]; exact hM
      clear hkl hM
      go_wp2
      go_ret
      exact ⟨M, rfl, HE.out, rfl⟩
section
variable {n c m d c' : Nat} {A A' V : Option Addr} {xs : List ByteArray} {fs : List Fib} {l : List Int}
theorem rndL_pos {q : Nat → Bool} (he : endsB n fs) (k : Nat) : ∀ x ∈ rndL q fs n k, 0 ≤ x := by
  have key : ∀ (L : List Int), L.length = n → (∀ v, 0 ≤ valL L v) → ∀ x ∈ L, 0 ≤ x := by
    intro L hL h x hx
    obtain ⟨i, hi, e⟩ := List.mem_iff_getElem.1 hx
    have := h i
    unfold valL at this
    rw [getD_of (by rw [List.getElem?_eq_getElem hi, e])] at this
    exact this
  refine key _ (rndL_len k) ?_
  induction k with
  | zero =>
    intro v
    show 0 ≤ valL (marks 0 n) v
    unfold valL
    by_cases h : v < n
    · rw [getD_of (marks_get h)]; omega
    · rw [List.getD_eq_getElem?_getD, List.getElem?_eq_none (by rw [marks_len]; omega)]; simp
  | succ k ih =>
    rw [rndL_succ]
    suffices hh : ∀ j, j ≤ fs.length → ∀ v, 0 ≤ valL (passTo q fs (rndL q fs n k) j) v from hh _ (Nat.le_refl _)
    intro j
    induction j with
    | zero => exact fun _ => ih
    | succ j ihj =>
      intro hj v
      have i2 := ihj (by omega)
      rw [passTo_succ]
      split
      · exact i2 v
      · obtain ⟨h0, h1, h2⟩ := he j (by omega)
        rw [joinF_val (n := n) (by rw [passTo_len, rndL_len]) h0 h1 h2]
        have a1 := i2 (fibD fs j).a.toNat
        have a2 := i2 (fibD fs j).b.toNat
        split
        · omega
        · exact i2 v
/-- IsConnected. -/
def icB (xs : List ByteArray) (fs : List Fib) (l : List Int) : Bool := coB xs fs l && (coL xs fs l).all fun x => x == 0
theorem max_zero {L : List Int} {M : Int} (h : maxAt L L.length M) (hp : ∀ x ∈ L, 0 ≤ x) : (M == 0) = L.all fun x => x == 0 := by
  unfold maxAt at h
  rw [List.take_length] at h
  rw [Bool.eq_iff_iff, List.all_eq_true]
  constructor
  · intro e x hx
    have e : M = 0 := by simpa using e
    have h1 := h.2 x hx
    have h2 := hp x hx
    have : x = 0 := by omega
    simp [this]
  · intro e
    exact e M h.1
set_option maxHeartbeats 1000000 in
set_option maxRecDepth 100000 in
theorem implIsConnected (w : World) (h : NetIs w A n c A' m d xs fs) (hv : Sees elInt w w.heap.size V l.length l) (hl : l.length ≤ 1048576) :
    Calls Try.prog 51 #[.agg #[.slice A n c, .slice A' m d], .slice V l.length c'] w fun e w' => e = .returned (.tuple #[.bool (icB xs fs l), .bool (coB xs fs l)]) ∧ Below w.heap.size w w' := by
  have hS := (Led.nil w).blk_ w.heap.size rfl 35 #[.slice A n c, .slice A' m d]
  cases g : coB xs fs l
  · have H : Hid (icB xs fs l = false) := by unfold Hid icB; rw [g]; rfl
    go_enter Try.func51, Try.ntmps51
    go_wp2_with fail
    refine (isFiberSet_any _ (h.grow hS.bl) ((hv.grow hS.bl).more hS.bl.size) hl).mono ?_
    rintro e w1 ⟨rfl, hb⟩
    rw [g]
    go_wp2_with fail
    go_ret2
    exact ⟨by rw [H.out]; rfl, bl_then hS.bl hb⟩
  · have hcl : coL xs fs l = compL (goneF l) fs n := by unfold coL; rw [g, h.xlen]; rfl
    have H : Hid (icB xs fs l = (compL (goneF l) fs n).all fun x => x == 0) := by unfold Hid icB; rw [g, hcl]; rfl
    have hg : goodB xs fs = true := by unfold coB at g; rw [Bool.and_eq_true] at g; exact g.1
    have he := goodB_ends hg
    rw [h.xlen] at he
    have hn0 : 0 < n := by have := (goodB_bd hg).1; have := h.xlen; omega
    have hn := h.nle
    have HP := hid (rndL_pos (q := goneF l) he n)
    have hll : Hid ((compL (goneF l) fs n).length = n) := compL_len
    clear hcl
    go_enter Try.func51, Try.ntmps51
    go_wp2_with fail
    refine (isFiberSet_any _ (h.grow hS.bl) ((hv.grow hS.bl).more hS.bl.size) hl).mono ?_
    rintro e w1 ⟨rfl, hb⟩
    rw [g]
    replace hS := hS.step hb
    have q0 := hS.cell 0 0 rfl rfl
    have q1 := hS.cell 0 1 rfl rfl
    go_wp2_with fail
    refine (components_any _ (h.grow hS.bl) (hv.grow hS.bl) hl he hn0).mono ?_
    rintro e w2 ⟨v, rfl, ho, hb2⟩
    change Hid (∀ x ∈ compL (goneF l) fs n, 0 ≤ x) at HP
    generalize compL (goneF l) fs n = L at *
    obtain ⟨A2, c2, rfl, _, _, hs⟩ := ho.form
    have hbz := bl_then hS.bl hb2
    have HS := hid hs
    clear ho hs q0 q1
    go_wp2_with fail
    refine (max_any _ HS.out (by rw [hll.out]; exact hn0) (by rw [hll.out]; exact hn)).mono ?_
    rintro e w3 ⟨M, rfl, hM, rfl⟩
    have HZ := hid (max_zero hM HP.out)
    clear hM
    go_wp2_with fail
    go_ret2
    exact ⟨by rw [H.out, ← HZ.out]; rfl, hbz⟩
set_option maxHeartbeats 1000000 in
set_option maxRecDepth 100000 in
theorem specIsConnected (w : World) (h : NetIs w A n c A' m d xs fs) (hv : Sees elInt w w.heap.size V l.length l) (hl : l.length ≤ 1048576) :
    Calls Try.prog 49 #[.agg #[.slice A n c, .slice A' m d], .slice V l.length c'] w fun e w' => e = .returned (.tuple #[.bool (icB xs fs l), .bool (coB xs fs l)]) ∧ Below w.heap.size w w' := by
  have hS := (Led.nil w).blk_ w.heap.size rfl 35 #[.slice A n c, .slice A' m d]
  cases g : coB xs fs l
  · have H : Hid (icB xs fs l = false) := by unfold Hid icB; rw [g]; rfl
    go_enter Try.func49, Try.ntmps49
    go_wp2_with fail
    refine (l6Set_any _ (h.grow hS.bl) ((hv.grow hS.bl).more hS.bl.size) hl).mono ?_
    rintro e w1 ⟨rfl, hb⟩
    rw [g]
    go_wp2_with fail
    go_ret2
    exact ⟨by rw [H.out]; rfl, bl_then hS.bl hb⟩
  · have hcl : coL xs fs l = compL (fun i => (maskN l).testBit i) fs n := by unfold coL; rw [compL_mask g, g, h.xlen]; rfl
    have H : Hid (icB xs fs l = (compL (fun i => (maskN l).testBit i) fs n).all fun x => x == 0) := by unfold Hid icB; rw [g, hcl]; rfl
    have hg : goodB xs fs = true := by have g' := g; unfold coB at g'; rw [Bool.and_eq_true] at g'; exact g'.1
    have he := goodB_ends hg
    rw [h.xlen] at he
    have hn0 : 0 < n := by have := (goodB_bd hg).1; have := h.xlen; omega
    have hn := h.nle
    have hm20 : m ≤ 20 := by have := (goodB_bd hg).2.2; have := h.flen; omega
    have hll : Hid ((compL (fun i => (maskN l).testBit i) fs n).length = n) := compL_len
    obtain ⟨hM, hx⟩ := mask_small g
    clear hcl
    go_enter Try.func49, Try.ntmps49
    go_wp2_with fail
    refine (l6Set_any _ (h.grow hS.bl) ((hv.grow hS.bl).more hS.bl.size) hl).mono ?_
    rintro e w1 ⟨rfl, hb⟩
    rw [g]
    replace hS := hS.step hb
    have C0 : ∀ w', Cls w1 w' → w'.cell? ⟨w.heap.size, 0, none⟩ = some (.slice A n c) := fun _ h => h.cell (hS.cell 0 0 rfl rfl)
    have C1 : ∀ w', Cls w1 w' → w'.cell? ⟨w.heap.size, 1, none⟩ = some (.slice A' m d) := fun _ h => h.cell (hS.cell 0 1 rfl rfl)
    have HK : Hid (∀ w', Cls w1 w' → Calls Try.prog 98 #[.slice V l.length c'] w' fun e w2 => e = .returned (.int .i64 ((maskN l : Nat) : Int)) ∧ w' = w2) := fun w' hw => mask_any w' ((hv.grow hS.bl).grow hw) hx hl
    have HL : Hid (∀ w', Cls w1 w' → Calls Try.prog 97 #[.agg #[.slice A n c, .slice A' m d], .int .i64 ((maskN l : Nat) : Int)] w' fun e w2 => ∃ v, e = .returned v ∧ Owns elInt w2 w'.heap.size 3 v (compL (fun i => (maskN l).testBit i) fs n) ∧ Below w'.heap.size w' w2) := fun w' hw => labels_any (maskN l) w' ((h.grow hS.bl).grow hw) hM he hn0 hm20
    have hbw := hS.bl
    generalize compL (fun i => (maskN l).testBit i) fs n = L at *
    generalize maskN l = Mn at *
    clear hS h hv hb hx hM he
    go_wp2_with fail
    go_region_held3 (fun w' => Cls w1 w') (first | assumption | exact Cls.drew _ | exact Cls.next (by assumption) (by assumption))
      (first
        | (go_at_call 98; refine (HK.out _ (by assumption)).mono ?_; rintro e w' ⟨rfl, rfl⟩)
        | (go_at_call 97; have hcl := ‹Cls w1 _›; refine (HL.out _ (by assumption)).mono ?_; rintro e w' ⟨v, rfl, ho, hb2⟩))
    obtain ⟨A2, c2, rfl, _, _, hs⟩ := ho.form
    have HB3 := hid (bl_then hbw (Cls.next hb2 hcl))
    have HS := hid hs
    clear ho HL HK C0 C1 hb2 hcl hs hbw
    generalize w' = wq at *
    go_wp2_with fail
    go_loop [7] (fun i => ∃ k : Nat, k ≤ L.length ∧ i = .int .i64 k ∧ Hid (∀ x ∈ L.take k, (x == 0) = true)) (fun i => L.length - (intOf i).toNat)
    case atStart => exact ⟨0, Nat.zero_le _, rfl, fun x hx => by simp at hx⟩
    case round =>
      obtain ⟨k, hk, rfl, hall⟩ := hrel
      have hLn : L.length ≤ 1048576 := by rw [hll.out]; exact hn
      by_cases hlt : k < L.length
      · obtain ⟨b, o, rfl, _, hc⟩ := HS.out.at_ hlt
        obtain ⟨x, hxk⟩ := get_of (l := L) (k := k) rfl hlt
        have e0 := hc k x hxk 0 _ rfl
        simp only [elInt, Nat.mul_one, Nat.add_zero] at e0
        have HX := hid hxk
        clear hc hxk
        cases gx : (x == 0)
        · have HE : Hid (icB xs fs l = false) := by
            unfold Hid
            rw [H.out, ← Bool.not_eq_true, List.all_eq_true]
            intro ha
            have := ha x (List.mem_of_getElem? HX.out)
            rw [gx] at this; cases this
          clear hall
          go_wp2
          go_ret2
          exact ⟨by rw [HE.out]; rfl, HB3.out⟩
        · have HA : Hid (∀ y ∈ L.take (k + 1), (y == 0) = true) := by
            intro y hy
            rw [List.take_add_one, HX.out] at hy
            simp at hy
            rcases hy with hy | rfl
            · exact hall.out y hy
            · exact gx
          clear hall
          go_wp2
          exact ⟨⟨k + 1, by omega, by go_num, HA⟩, by simp [intOf]; omega⟩
      · have hkl : k = L.length := by omega
        have HE : Hid (icB xs fs l = true) := by
          have ha := hall.out
          rw [hkl, List.take_length] at ha
          unfold Hid
          rw [H.out, List.all_eq_true]
          exact ha
        clear hkl hall
        go_wp2
        go_ret2
        exact ⟨by rw [HE.out]; rfl, HB3.out⟩
end
end Go.Proofs.Ytdnmkcalpfkfhaa
