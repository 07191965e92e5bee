/- Lemmas and walks that the claim rests on, laid together. Conditions: none. -/
import Derived.Test.YtgoegldffjfmdaaRows
import Derived.Test.YtgoegldffjfmdaaZd45350718704
import Derived.Test.YtgoegldffjfmdaaZ5937fb145e81
import Derived.Test.YtgoegldffjfmdaaZ342be6a000f6
import Derived.Test.YtgoegldffjfmdaaZ0d783c1cac86
import Derived.Test.YtgoegldffjfmdaaZ44f4b0e7b5aa
import Derived.Deep.RegionHeld3
/- RiskGroups of both sides and the reference's FailingWith, walked. Conditions: none. -/
namespace Go.Proofs.Ytgoegldffjfmdaa
open Go.RowKit
variable {n c m d : Nat} {A A' : Option Addr} {xs : List ByteArray} {fs : List Fib}
def rgL (xs : List ByteArray) (fs : List Fib) : List (List Int) := if goodB xs fs then groupsL fs else []
def fwB (xs : List ByteArray) (fs : List Fib) (i : Int) : Bool := goodB xs fs && inB 0 ((fs.length : Int) - 1) i
def fwL (xs : List ByteArray) (fs : List Fib) (i : Int) : List Int := if fwB xs fs i then groupL fs i.toNat else []
set_option maxHeartbeats 1000000 in
set_option maxRecDepth 100000 in
theorem implRiskGroups (w : World) (h : NetIs w A n c A' m d xs fs) :
    Calls Try.prog 70 #[.agg #[.slice A n c, .slice A' m d]] w fun e w' => ∃ s ss, e = .returned (.tuple #[slV s, .bool (goodB xs fs)]) ∧ OwnsSS w' w.heap.size (slV s) ss (rgL xs fs) ∧ Below w.heap.size w w' := by
  have hb0 := bl_alloc (Below.refl w.heap.size w) (.cells #[.slice A n c, .slice A' m d] 34)
  have hx0 : Blk (w.alloc (.cells #[.slice A n c, .slice A' m d] 34)) w.heap.size 34 #[.slice A n c, .slice A' m d] := Blk.new _ _ _
  have h0 := h.grow hb0
  cases g : goodB xs fs
  · have H : Hid (rgL xs fs = []) := by unfold Hid rgL; rw [g]; rfl
    go_enter Try.func70, Try.ntmps70
    go_wp2_with fail
    refine (validN _ h0).mono ?_
    rintro e w2 ⟨rfl, hb2⟩
    rw [g]
    go_wp2_with fail
    go_ret2
    exact ⟨⟨none, 0, 0⟩, [], rfl, by rw [H.out]; exact OwnsSS.nil _ _, bl_then hb0 hb2⟩
  · have H : Hid (rgL xs fs = groupsL fs) := by unfold Hid rgL; rw [g]; rfl
    go_enter Try.func70, Try.ntmps70
    go_wp2_with fail
    refine (validN _ h0).mono ?_
    rintro e w2 ⟨rfl, hb2⟩
    rw [g]
    have q0 := (hx0.below hb2 hx0.lt).cell 0
    have q1 := (hx0.below hb2 hx0.lt).cell 1
    simp at q0 q1
    have hbw := bl_then hb0 hb2
    go_wp2_with fail
    refine (groups_any _ (h.grow hbw)).mono ?_
    rintro e w3 ⟨s, ss, rfl, hs, hb3⟩
    have HS := hid hs
    clear hs
    go_wp2_with fail
    go_ret2
    exact ⟨s, ss, rfl, by rw [H.out]; exact HS.out.base_ hbw.size, bl_then hbw hb3⟩
set_option maxHeartbeats 1000000 in
set_option maxRecDepth 100000 in
theorem specRiskGroups (w : World) (h : NetIs w A n c A' m d xs fs) :
    Calls Try.prog 58 #[.agg #[.slice A n c, .slice A' m d]] w fun e w' => ∃ s ss, e = .returned (.tuple #[slV s, .bool (goodB xs fs)]) ∧ OwnsSS w' w.heap.size (slV s) ss (rgL xs fs) ∧ Below w.heap.size w w' := by
  have hb0 := bl_alloc (Below.refl w.heap.size w) (.cells #[.slice A n c, .slice A' m d] 34)
  have hx0 : Blk (w.alloc (.cells #[.slice A n c, .slice A' m d] 34)) w.heap.size 34 #[.slice A n c, .slice A' m d] := Blk.new _ _ _
  have h0 := h.grow hb0
  cases g : goodB xs fs
  · have H : Hid (rgL xs fs = []) := by unfold Hid rgL; rw [g]; rfl
    go_enter Try.func58, Try.ntmps58
    go_wp2_with fail
    refine (goodN _ h0).mono ?_
    rintro e w2 ⟨rfl, hb2⟩
    rw [g]
    go_wp2_with fail
    go_ret2
    have hbw := bl_then hb0 hb2
    exact ⟨⟨some ⟨w2.heap.size, 0, none⟩, 0, 0⟩, [], rfl, by rw [H.out]; exact ⟨Owns.of_blk (E := elSl) (n := 0) (cap := 0) (cur := #[]) (Blk.new w2 27 #[]) hbw.size rfl (Nat.le_refl _) rfl (by decide) (Filled.zero _ _ _), rfl, fun i s r h1 => by simp at h1, fun i j s t g _ h1 => by simp at h1⟩, bl_alloc hbw _⟩
  · have H : Hid (rgL xs fs = groupsL fs) := by unfold Hid rgL; rw [g]; rfl
    go_enter Try.func58, Try.ntmps58
    go_wp2_with fail
    refine (goodN _ h0).mono ?_
    rintro e w2 ⟨rfl, hb2⟩
    rw [g]
    have q0 := (hx0.below hb2 hx0.lt).cell 0
    have q1 := (hx0.below hb2 hx0.lt).cell 1
    simp at q0 q1
    have hbw := bl_then hb0 hb2
    go_wp2_with fail
    refine (l2Groups_any _ (h.grow hbw)).mono ?_
    rintro e w3 ⟨s, ss, rfl, hs, hb3⟩
    have HS := hid hs
    clear hs
    go_wp2_with fail
    go_ret2
    exact ⟨s, ss, rfl, by rw [H.out]; exact HS.out.base_ hbw.size, bl_then hbw hb3⟩
end Go.Proofs.Ytgoegldffjfmdaa
/- How many risk groups there are, and how great. Conditions: none. -/
namespace Go.Proofs.Ytgoegldffjfmdaa
open Go.RowKit
theorem offS_bd {k : Int} {rows : List (List Int)} {L : Nat} (h : ∀ r ∈ rows, r.length ≤ L) : ∀ j, j ≤ rows.length → offS k rows j ≤ k + ((j * L : Nat) : Int) := by
  intro j
  induction j with
  | zero => intro _; rw [offS_zero]; omega
  | succ j ih =>
    intro hj
    obtain ⟨r, hr⟩ : ∃ r, rows[j]? = some r := ⟨rows[j]'(by omega), List.getElem?_eq_getElem _⟩
    have h1 := ih (by omega)
    have h2 := h r (List.mem_of_getElem? hr)
    rw [offS_succ hr, Nat.add_mul]
    omega
theorem groups_row {fs : List Fib} {r : List Int} (h : r ∈ groupsL fs) : r.length ≤ fs.length + 1 := by
  unfold groupsL rkTo zrTo at h
  rcases List.mem_append.1 h with h | h
  · have h1 := (List.mem_filter.1 h).1
    obtain ⟨t, _, rfl⟩ := List.mem_map.1 h1
    unfold rkRow
    exact Nat.le_trans (idsTo_len _ _) (Nat.le_succ _)
  · obtain ⟨x, _, rfl⟩ := List.mem_map.1 h
    simp
theorem groups_len (fs : List Fib) : (groupsL fs).length ≤ 9 + fs.length := by
  unfold groupsL
  rw [List.length_append]
  have := rkTo_len fs 9
  have := zrTo_len fs fs.length
  omega
theorem rgL_small (xs : List ByteArray) (fs : List Fib) : (rgL xs fs).length ≤ 23 ∧ ∀ r ∈ rgL xs fs, r.length ≤ 15 := by
  unfold rgL
  cases g : goodB xs fs
  · exact ⟨by simp, fun r h => by simp at h⟩
  · have hb := goodB_bd g
    have := groups_len fs
    exact ⟨by simp; omega, fun r h => by simp at h; have := groups_row h; omega⟩
theorem rgL_off (xs : List ByteArray) (fs : List Fib) : offS 1 (rgL xs fs) (rgL xs fs).length ≤ 1000 := by
  obtain ⟨h1, h2⟩ := rgL_small xs fs
  have := offS_bd (k := 1) h2 (rgL xs fs).length (Nat.le_refl _)
  have h3 : (rgL xs fs).length * 15 ≤ 23 * 15 := Nat.mul_le_mul_right _ h1
  omega
end Go.Proofs.Ytgoegldffjfmdaa
/- The group that contains a fiber, in plain Lean. Conditions: the network is valid. -/
namespace Go.Proofs.Ytgoegldffjfmdaa
theorem mem_idsTo {p : Nat → Bool} {k : Nat} {x : Int} : x ∈ idsTo p k ↔ ∃ j : Nat, j < k ∧ p j = true ∧ x = (j : Int) := by
  unfold idsTo
  rw [List.mem_map]
  constructor
  · rintro ⟨j, hj, rfl⟩
    rw [List.mem_filter] at hj
    exact ⟨j, by simpa using hj.1, hj.2, rfl⟩
  · rintro ⟨j, hj, hp, rfl⟩
    exact ⟨j, List.mem_filter.2 ⟨by simpa using hj, hp⟩, rfl⟩
theorem idsTo_mem {p : Nat → Bool} {k j : Nat} : (j : Int) ∈ idsTo p k ↔ j < k ∧ p j = true := by
  rw [mem_idsTo]
  constructor
  · rintro ⟨i, hi, hp, e⟩
    have : j = i := by omega
    subst this; exact ⟨hi, hp⟩
  · rintro ⟨h1, h2⟩; exact ⟨j, h1, h2, rfl⟩
/-- Where there is one that passes, and all that pass are R, the first one that passes is R. -/
theorem findP_only {α : Type} {p : α → Bool} {l : List α} {R : α} (h1 : R ∈ l) (hp : p R = true) (h2 : ∀ r ∈ l, p r = true → r = R) : ∃ k : Nat, findP p l = k ∧ l[k]? = some R := by
  suffices h : ∀ (l : List α) (k0 : Nat), R ∈ l → (∀ r ∈ l, p r = true → r = R) → ∃ k : Nat, findPF p l k0 = ((k0 + k : Nat) : Int) ∧ l[k]? = some R by
    obtain ⟨k, h3, h4⟩ := h l 0 h1 h2
    exact ⟨k, by unfold findP; rw [h3]; simp, h4⟩
  intro l
  induction l with
  | nil => intro k0 h; cases h
  | cons y l ih =>
    intro k0 h1 h2
    unfold findPF
    by_cases hy : p y = true
    · rw [if_pos hy]
      exact ⟨0, by simp, by simp [h2 y (by simp) hy]⟩
    · rw [if_neg hy]
      have hne : y ≠ R := fun e => hy (e ▸ hp)
      rcases List.mem_cons.1 h1 with e | h3
      · exact absurd e.symm hne
      obtain ⟨k, h4, h5⟩ := ih (k0 + 1) h3 (fun r hr => h2 r (by simp [hr]))
      exact ⟨k + 1, by rw [h4]; congr 1; omega, by simpa using h5⟩
theorem rkTo_mem {fs : List Fib} {t : Nat} {r : List Int} : r ∈ rkTo fs t ↔ (∃ j, j < t ∧ r = rkRow fs j) ∧ r ≠ [] := by
  unfold rkTo
  rw [List.mem_filter, List.mem_map]
  constructor
  · rintro ⟨⟨j, hj, rfl⟩, h⟩
    exact ⟨⟨j, by simpa using hj, rfl⟩, by cases hh : rkRow fs j <;> simp_all⟩
  · rintro ⟨⟨j, hj, rfl⟩, h⟩
    exact ⟨⟨j, by simpa using hj, rfl⟩, by cases hh : rkRow fs j <;> simp_all⟩
theorem zrTo_mem {fs : List Fib} {k : Nat} {r : List Int} : r ∈ zrTo fs k ↔ ∃ j : Nat, j < k ∧ riskF fs j = 0 ∧ r = [(j : Int)] := by
  unfold zrTo
  rw [List.mem_map]
  constructor
  · rintro ⟨x, hx, rfl⟩
    obtain ⟨j, h1, h2, rfl⟩ := mem_idsTo.1 hx
    exact ⟨j, h1, by simpa using h2, rfl⟩
  · rintro ⟨j, h1, h2, rfl⟩
    exact ⟨j, mem_idsTo.2 ⟨j, h1, by simpa using h2, rfl⟩, rfl⟩
section
variable {xs : List ByteArray} {fs : List Fib}
theorem riskF_bd (hg : goodB xs fs = true) {j : Nat} (hj : j < fs.length) : 0 ≤ riskF fs j ∧ riskF fs j ≤ 9 := by
  have h := goodB_fibB hg (List.getElem_mem hj)
  rw [riskF_of (List.getElem?_eq_getElem hj)]
  unfold fibB at h; simp at h; omega
theorem groupL_self {i : Nat} (hi : i < fs.length) : (i : Int) ∈ groupL fs i := by
  unfold groupL
  by_cases h : (riskF fs i == 0) = true
  · rw [if_pos h]; simp
  · rw [if_neg h]; exact idsTo_mem.2 ⟨hi, by simp⟩
theorem groupL_mem {i j : Nat} (hi : i < fs.length) : (j : Int) ∈ groupL fs i ↔ j < fs.length ∧ (i = j ∨ (riskF fs i ≠ 0 ∧ riskF fs j = riskF fs i)) := by
  unfold groupL
  by_cases h : (riskF fs i == 0) = true
  · rw [if_pos h]
    have h0 : riskF fs i = 0 := by simpa using h
    simp
    constructor
    · intro e; have : j = i := by omega
      subst this; exact ⟨hi, .inl rfl⟩
    · rintro ⟨_, e | e⟩
      · omega
      · exact absurd h0 e.1
  · rw [if_neg h, idsTo_mem]
    have h0 : riskF fs i ≠ 0 := by simpa using h
    simp
    intro hj
    constructor
    · intro e; exact .inr ⟨h0, e⟩
    · rintro (rfl | e)
      · rfl
      · exact e.2
/-- The group of fiber i is a group. -/
theorem groupL_in (hg : goodB xs fs = true) {i : Nat} (hi : i < fs.length) : groupL fs i ∈ groupsL fs := by
  unfold groupsL
  rw [List.mem_append]
  by_cases h : (riskF fs i == 0) = true
  · exact .inr (zrTo_mem.2 ⟨i, hi, by simpa using h, by unfold groupL; rw [if_pos h]⟩)
  · have hb := riskF_bd hg hi
    have h0 : riskF fs i ≠ 0 := by simpa using h
    obtain ⟨t, ht⟩ : ∃ t : Nat, riskF fs i = (t : Int) + 1 := ⟨(riskF fs i - 1).toNat, by omega⟩
    have e : groupL fs i = rkRow fs t := groupL_row (by rw [ht]; simp)
    exact .inl (rkTo_mem.2 ⟨⟨t, by omega, e⟩, List.ne_nil_of_mem (groupL_self hi)⟩)
/-- The group that contains fiber i is its group. -/
theorem groupL_only {i : Nat} {r : List Int} (hr : r ∈ groupsL fs) (h : (i : Int) ∈ r) : i < fs.length ∧ r = groupL fs i := by
  unfold groupsL at hr
  rcases List.mem_append.1 hr with hr | hr
  · obtain ⟨⟨t, ht, rfl⟩, _⟩ := rkTo_mem.1 hr
    have h' := h
    unfold rkRow at h'
    obtain ⟨h1, h2⟩ := idsTo_mem.1 h'
    exact ⟨h1, (groupL_row h2).symm⟩
  · obtain ⟨j, hj, h0, rfl⟩ := zrTo_mem.1 hr
    have : i = j := by simp at h; omega
    subst this
    exact ⟨hj, by unfold groupL; rw [if_pos (by simpa using h0)]⟩
/-- The index of the group of a fiber. -/
def grpI (fs : List Fib) (i : Int) : Int := findP (fun r => hasB r i) (groupsL fs)
theorem grp_at (hg : goodB xs fs = true) {i : Nat} (hi : i < fs.length) : ∃ k : Nat, grpI fs i = k ∧ (groupsL fs)[k]? = some (groupL fs i) :=
  findP_only (groupL_in hg hi) (hasB_iff.2 (groupL_self hi)) (fun _ hr hp => (groupL_only hr (hasB_iff.1 hp)).2)
end
end Go.Proofs.Ytgoegldffjfmdaa
/- slices.IndexFunc over rows, groupOf, walked. Conditions: none. -/
namespace Go.Proofs.Ytgoegldffjfmdaa
open Go.RowKit
section
variable {n c : Nat} {A : Option Addr} {ss : List Sl} {rows : List (List Int)} {F : FuncId} {cap : Array Value}
set_option maxHeartbeats 1000000 in
set_option maxRecDepth 100000 in
theorem indexFuncSS_any (p : List Int → Bool) (w : World) (hA : SeesSS w A n ss rows) (hn : n ≤ 1048576)
    (hcall : ∀ args wr, (callFunc F args).run Try.prog wr = .ok (.enter F args) wr)
    (hF : ∀ (i : Nat) s r w', ss[i]? = some s → rows[i]? = some r → Cls w w' → Calls Try.prog F (#[.slice s.A s.n s.c] ++ cap) w' fun e w2 => e = .returned (.bool (p r)) ∧ Below w'.heap.size w' w2) :
    Calls Try.prog 195 #[.slice A n c, .func (.func F) #[] cap] w fun e w' => e = .returned (.int .i64 (findP p rows)) ∧ Below w.heap.size w w' := by
  have HF := hid hF
  have hlr : rows.length = n := by rw [← hA.2.1]; exact hA.1.len
  have HLR := hid hlr
  clear hF hlr
  go_enter Try.func195, Try.ntmps195
  go_wp2
  go_loopw [8] (fun i wr => ∃ k : Nat, k ≤ n ∧ i = .int .i64 k ∧ Hid (noneP p rows k) ∧ Below w.heap.size w wr) (fun i _ => n - (intOf i).toNat)
  case atStart => exact ⟨0, Nat.zero_le _, rfl, noneP_zero _ _, Below.refl _ _⟩
  case round =>
    obtain ⟨k, hk, rfl, hno, hb⟩ := hrel
    by_cases hlt : k < n
    · obtain ⟨b, o, rfl, _, hc⟩ := hA.1.at_ hlt
      obtain ⟨x, hxk⟩ := get_of (k := k) HLR.out hlt
      obtain ⟨s, hsk⟩ := get_of (k := k) hA.1.len hlt
      have hcx := bl_cell hb (hc k s hsk 0 _ rfl)
      simp only [elSl, Nat.mul_one, Nat.add_zero, slV] at hcx
      have HC := hid (HF.out k s x wr hsk hxk hb)
      clear hc
      go_wp2_with fail
      refine HC.out.mono ?_
      rintro e w' ⟨rfl, hb2⟩
      have hbb : Below w.heap.size w w' := bl_then hb hb2
      clear HC hcx hb hb2
      by_cases hp : p x = true
      · have HR := hid (findP_at hno.out hxk hp)
        clear hno hxk
        rw [hp]
        go_wp2_with fail
        go_ret
        exact ⟨by rw [HR.out]; rfl, hbb⟩
      · have hp' : p x = false := by simpa using hp
        have HR := hid (noneP_succ hno.out hxk hp')
        clear hno hxk
        rw [hp']
        go_wp2_with fail
        exact ⟨⟨k + 1, by omega, by go_num, HR, hbb⟩, by simp [intOf]; omega⟩
    · have HN := hid (findP_none (p := p) HLR.out (by obtain rfl : k = n := (by omega); exact hno.out))
      clear hno
      go_wp2
      go_ret
      exact ⟨by rw [HN.out]; rfl, hb⟩
end
section
variable {n c m d : Nat} {A A' : Option Addr} {xs : List ByteArray} {fs : List Fib}
set_option maxRecDepth 100000 in
theorem groupOfC (i : Int) {n c : Nat} {A : Option Addr} {r : List Int} (w : World) (g : Nat) (hg : Blk w g 3 #[.int .i64 i]) (hs : Sees elInt w w.heap.size A n r) (hn : n ≤ maxLen) :
    Calls Try.prog 196 #[.slice A n c, .pointer (some ⟨g, 0, none⟩)] w fun e w' => e = .returned (.bool (hasB r i)) ∧ Below w.heap.size w w' := by
  have q0 := hg.cell 0
  simp at q0
  go_enter Try.func196, Try.ntmps196
  go_wp2_with fail
  refine (containsI_any i _ hs hn).mono ?_
  rintro e w2 ⟨rfl, rfl⟩
  go_wp2_with fail
  go_ret
  exact ⟨rfl, Below.refl _ _⟩
theorem grp_small {r : List Int} (h : r ∈ groupsL fs) (hf : fs.length ≤ 1048576) : r.length ≤ 1048577 := by
  have := groups_row h; omega
set_option maxHeartbeats 1000000 in
set_option maxRecDepth 100000 in
theorem groupOf_any (i : Int) (w : World) (h : NetIs w A n c A' m d xs fs) (hm : m ≤ 1000000) :
    Calls Try.prog 152 #[.agg #[.slice A n c, .slice A' m d], .int .i64 i] w fun e w' => e = .returned (.int .i64 (grpI fs i)) ∧ Below w.heap.size w w' := by
  have hb0 := bl_alloc (bl_alloc (Below.refl w.heap.size w) (.cells #[.slice A n c, .slice A' m d] 34)) (.cells #[.int .i64 i] 3)
  have hx0 : Blk ((w.alloc (.cells #[.slice A n c, .slice A' m d] 34)).alloc (.cells #[.int .i64 i] 3)) (w.heap.size + 1) 3 #[.int .i64 i] := by
    have := Blk.new (w.alloc (.cells #[.slice A n c, .slice A' m d] 34)) 3 #[.int .i64 i]
    simpa using this
  have h0 := h.grow hb0
  have hfl := hid h.flen
  have HG : Hid (grpI fs i = findP (fun r => hasB r i) (groupsL fs)) := rfl
  go_enter Try.func152, Try.ntmps152
  go_wp2_with fail
  refine (groups_any _ h0).mono ?_
  rintro e w2 ⟨⟨A2, n2, c2⟩, ss, rfl, hs, hb2⟩
  dsimp only [slV] at hs ⊢
  have hx2 := hid (hx0.below hb2 hx0.lt)
  have hbw := bl_then hb0 hb2
  have hsees := hs.sees
  have hn2 : n2 = ss.length := by
    obtain ⟨_, _, hv, _⟩ := hs.1.form
    injection hv
  have hgl : Hid ((groupsL fs).length = ss.length) := hs.2.1.symm
  have hgb := groups_len fs
  rw [hgl.out, hfl.out] at hgb
  subst hn2
  have HS := hid hsees
  clear hs hsees
  go_wp2_with fail
  refine (indexFuncSS_any (cap := #[.pointer (some ⟨w.heap.size + 1, 0, none⟩)]) (fun r => hasB r i) _ HS.out (by omega) (fun _ _ => by rfl) (fun k s r w' h1 h2 hw' => by
    have a1 := (HS.out.grow hw').2.2 k s r h1 h2
    have a3 := grp_small (List.mem_of_getElem? h2) (by rw [hfl.out]; omega)
    exact groupOfC i w' (w.heap.size + 1) (hx2.out.below hw' hx2.out.lt) a1.2 (by rw [a1.1]; unfold maxLen; omega))).mono ?_
  rintro e w3 ⟨rfl, hb3⟩
  go_wp2_with fail
  go_ret
  exact ⟨by rw [HG.out]; rfl, bl_then hbw hb3⟩
end
end Go.Proofs.Ytgoegldffjfmdaa
/- FailingWith of both sides, walked. Conditions: none. -/
namespace Go.Proofs.Ytgoegldffjfmdaa
open Go.RowKit
variable {n c m d : Nat} {A A' : Option Addr} {xs : List ByteArray} {fs : List Fib}
theorem OwnsSS.at_ {w : World} {base n c k : Nat} {A : Option Addr} {ss : List Sl} {rows : List (List Int)} {r : List Int} (h : OwnsSS w base (.slice A n c) ss rows) (hk : rows[k]? = some r) :
    ∃ g s, A = some ⟨g, 0, none⟩ ∧ n = rows.length ∧ ss[k]? = some s ∧ w.cell? ⟨g, k, none⟩ = some (.slice s.A s.n s.c) ∧ Owns elInt w base 3 (.slice s.A s.n s.c) r := by
  have hl := h.2.1
  obtain ⟨s, hs⟩ := get_of (l := ss) (k := k) hl (List.getElem?_eq_some_iff.1 hk).1
  rcases h.1.cases with ⟨_, e⟩ | ⟨g, cap, cur, hv, _, hb, _, _, _, hf⟩
  · rw [e] at hs; simp at hs
  · injection hv with e1 e2 e3
    refine ⟨g, s, e1, by rw [e2, hl], hs, ?_, h.2.2.1 k s r hs hk⟩
    have := hf k s (List.getElem?_eq_some_iff.1 hs).1 hs 0 _ rfl
    rw [hb.cell]
    simpa [elSl, slV] using this
theorem fwL_small (i : Int) : (fwL xs fs i).length ≤ 15 := by
  unfold fwL
  cases g : fwB xs fs i
  · simp
  · unfold fwB at g
    rw [Bool.and_eq_true] at g
    have hi := inB_idx g.2
    have := groups_row (groupL_in g.1 (i := i.toNat) (by omega))
    have := (goodB_bd g.1).2.2
    simp; omega
set_option maxHeartbeats 1000000 in
set_option maxRecDepth 100000 in
theorem implFailing (i : Int) (w : World) (h : NetIs w A n c A' m d xs fs) :
    Calls Try.prog 73 #[.agg #[.slice A n c, .slice A' m d], .int .i64 i] w fun e w' => ∃ v, e = .returned (.tuple #[v, .bool (fwB xs fs i)]) ∧ Owns elInt w' w.heap.size 3 v (fwL xs fs i) ∧ Below w.heap.size w w' := by
  have hb0 := bl_alloc (Below.refl w.heap.size w) (.cells #[.slice A n c, .slice A' m d] 34)
  have hx0 : Blk (w.alloc (.cells #[.slice A n c, .slice A' m d] 34)) w.heap.size 34 #[.slice A n c, .slice A' m d] := Blk.new _ _ _
  have h0 := h.grow hb0
  have hfl := h.flen
  cases g : goodB xs fs && inB 0 ((m : Int) - 1) i
  · have H : Hid (fwB xs fs i = false) := by unfold Hid fwB; rw [hfl, g]
    go_enter Try.func73, Try.ntmps73
    go_wp2_with fail
    refine (isFiber_any i _ h0).mono ?_
    rintro e w2 ⟨rfl, hb2⟩
    rw [g]
    go_wp2_with fail
    go_ret2
    exact ⟨_, by rw [H.out]; rfl, by unfold fwL; rw [H.out]; exact World.ownsRow_nil _ _ _ _, bl_then hb0 hb2⟩
  · have H : Hid (fwB xs fs i = true) := by unfold Hid fwB; rw [hfl, g]
    have g' := g
    rw [Bool.and_eq_true] at g'
    have hi := inB_idx g'.2
    obtain ⟨j, rfl⟩ : ∃ j : Nat, i = (j : Int) := ⟨i.toNat, by omega⟩
    obtain ⟨k, hk1, hk2⟩ := grp_at g'.1 (i := j) (by rw [hfl]; omega)
    have hm := (goodB_bd g'.1).2.2
    rw [hfl] at hm
    have HK := hid hk2
    have HI := hid hk1
    have iz : (k : Int) < ((groupsL fs).length : Int) := by have := (List.getElem?_eq_some_iff.1 hk2).1; omega
    have H2 : Hid (fwL xs fs j = groupL fs j) := by unfold Hid fwL; rw [H.out]; simp
    clear g' hk1 hk2 hfl
    go_enter Try.func73, Try.ntmps73
    go_wp2_with fail
    refine (isFiber_any j _ h0).mono ?_
    rintro e w2 ⟨rfl, hb2⟩
    rw [g]
    have hx2 := hx0.below hb2 hx0.lt
    have hbw := bl_then hb0 hb2
    have z2 := hbw.size
    have C0 : ∀ w', Cls w2 w' → w'.cell? ⟨w.heap.size, 0, none⟩ = some (.slice A n c) := fun _ h => h.cell (by rw [hx2.cell]; rfl)
    have C1 : ∀ w', Cls w2 w' → w'.cell? ⟨w.heap.size, 1, none⟩ = some (.slice A' m d) := fun _ h => h.cell (by rw [hx2.cell]; rfl)
    have HN : Hid (∀ w', Cls w2 w' → NetIs w' A n c A' m d xs fs) := fun w' hw' => (h.grow hbw).grow hw'
    clear hx0 hx2
    go_wp2_with fail
    have p0 := C0 w2 (Cls.refl _)
    have p1 := C1 w2 (Cls.refl _)
    go_region_with (first
        | (go_at_call 110; refine (groups_any _ (HN.out _ (Cls.drew _))).mono ?_; rintro e w' ⟨⟨A2, n2, c2⟩, ss, rfl, hs, hb3⟩; dsimp only [slV] at hs ⊢; obtain ⟨ga, s, rfl, rfl, hsk, hq, hor⟩ := hs.at_ HK.out; have hcl := Cls.next hb3 (Cls.drew w2); have p2 := C0 _ hcl; have p3 := C1 _ hcl)
        | (go_at_call 152; refine (groupOf_any _ _ (HN.out _ hcl) (by omega)).mono ?_; rintro e w' ⟨rfl, hb4⟩; rw [HI.out]; have hq4 := bl_cell hb4 hq))
    all_goals
      have hbz := bl_then hbw (Cls.next hb4 hcl)
      have HOz := hid ((hor.below hb4).base (base' := w.heap.size) z2)
      clear hor hb4 hcl hs hb3
      go_wp2
      go_ret2
      exact ⟨_, by rw [H.out]; rfl, by rw [H2.out]; exact HOz.out, hbz⟩
end Go.Proofs.Ytgoegldffjfmdaa
/- CriticalGroups of both sides, walked. Conditions: none. -/
namespace Go.Proofs.Ytgoegldffjfmdaa
open Go.RowKit
theorem groupsL_range {fs : List Fib} {r : List Int} (h : r ∈ groupsL fs) : ∀ x ∈ r, 0 ≤ x ∧ x < fs.length := by
  unfold groupsL at h
  rcases List.mem_append.1 h with h | h
  · obtain ⟨t, ht⟩ : ∃ t, r = rkRow fs t := by
      have key : ∀ k, r ∈ rkTo fs k → ∃ t, r = rkRow fs t := by
        intro k
        induction k with
        | zero => intro h; simp [rkTo] at h
        | succ k ih =>
          intro h
          by_cases hne : rkRow fs k = []
          · rw [rkTo_no hne] at h; exact ih h
          · rw [rkTo_yes hne] at h
            rcases List.mem_append.1 h with h | h
            · exact ih h
            · exact ⟨k, by simpa using h⟩
      exact key 9 h
    rw [ht]; exact fun x hx => idsTo_range x hx
  · unfold zrTo at h
    obtain ⟨y, hy, rfl⟩ := List.mem_map.1 h
    intro x hx
    rw [List.mem_singleton] at hx
    subst hx
    exact idsTo_range _ hy
theorem cgL_len {xs : List ByteArray} {fs : List Fib} : (cgL xs fs).length ≤ 1048576 := by
  unfold cgL
  cases g : goodB xs fs
  · simp
  · have h := goodB_bd g
    have h2 := idsTo_len (cgF fs xs.length) (groupsL fs).length
    have h3 := groups_len fs
    rw [if_pos rfl]; omega
section
variable {n c m d : Nat} {A A' : Option Addr} {xs : List ByteArray} {fs : List Fib}
end
end Go.Proofs.Ytgoegldffjfmdaa
/- Group cuts in plain Lean: the program's choice and the reference's are one. Conditions: none. -/
namespace Go.Proofs.Ytgoegldffjfmdaa
section
variable {n m : Nat} {xs : List ByteArray} {fs : List Fib}
/-- The fibers of some groups, in the program's order. -/
def goneG (fs : List Fib) (L : List Int) : List Int := L.flatMap fun i => (groupsL fs).getD i.toNat []
/-- The number of a group's set. -/
def setG (fs : List Fib) (i : Nat) : Nat := maskN ((groupsL fs).getD i [])
def cutG (fs : List Fib) (n f t : Nat) (L : List Int) : Bool := cutP fs n f t (goneG fs L)
/-- The reference's list of the fewest groups. -/
def gcS (fs : List Fib) (n f t : Nat) : List Int := cutS (cutQ fs n f t) (setG fs) (groupsL fs).length
theorem group_pos {i : Nat} : ∀ x ∈ (groupsL fs).getD i [], 0 ≤ x ∧ x < fs.length := by
  intro x hx
  rw [List.getD_eq_getElem?_getD] at hx
  cases h : (groupsL fs)[i]? with
  | none => rw [h] at hx; cases hx
  | some r => rw [h] at hx; exact groupsL_range (List.mem_of_getElem? h) x hx
theorem setG_bit (i j : Nat) : (setG fs i).testBit j = hasB ((groupsL fs).getD i []) (j : Int) := maskN_bit (fun x hx => (group_pos x hx).1) j
theorem union_bitG {S : Nat → Nat} (L : List Int) (j : Nat) : ∀ M : Nat, (L.foldl (fun M x => M ||| S x.toNat) M).testBit j = (M.testBit j || L.any fun x => (S x.toNat).testBit j) := by
  induction L with
  | nil => intro M; simp
  | cons x L ih => intro M; rw [List.foldl_cons, ih, Nat.testBit_or, List.any_cons, Bool.or_assoc]
theorem cut_eqG {f t : Nat} (L : List Int) : cutG fs n f t L = cutQ fs n f t (unionS (setG fs) L) := by
  unfold cutG cutP cutQ
  have e : compL (goneF (goneG fs L)) fs n = compL (fun i => (unionS (setG fs) L).testBit i) fs n := compL_congr fun j _ => by
    unfold unionS goneF
    rw [union_bitG, Nat.zero_testBit, Bool.false_or, Bool.eq_iff_iff, hasB_iff, List.any_eq_true]
    unfold goneG
    rw [List.mem_flatMap]
    constructor
    · rintro ⟨x, hx, hj⟩; exact ⟨x, hx, by rw [setG_bit, hasB_iff]; exact hj⟩
    · rintro ⟨x, hx, hj⟩; rw [setG_bit, hasB_iff] at hj; exact ⟨x, hx, hj⟩
  rw [e]
theorem cut_allG (hg : goodB xs fs = true) {f t : Nat} (hf : f < n) (ht : t < n) (hne : f ≠ t) : cutG fs n f t (fromL (groupsL fs).length 0) = true := by
  have e : compL (goneF (goneG fs (fromL (groupsL fs).length 0))) fs n = marks 0 n := compL_all fun i hi => by
    unfold goneF
    rw [hasB_iff]
    unfold goneG
    obtain ⟨k, hk⟩ := List.getElem?_of_mem (groupL_in hg hi)
    rw [List.mem_flatMap]
    refine ⟨(k : Int), fromL_mem.2 ⟨k, Nat.zero_le _, (List.getElem?_eq_some_iff.1 hk).1, rfl⟩, ?_⟩
    rw [Int.toNat_natCast, List.getD_eq_getElem?_getD, hk]
    exact groupL_self hi
  have v : ∀ k, k < n → valL (marks 0 n) k = (k : Int) := fun k hk => by
    have := marks_get (k := 0) hk
    unfold valL
    rw [List.getD_eq_getElem?_getD, this]; simp
  unfold cutG cutP
  rw [e, v f hf, v t ht]
  simp; omega
theorem few_cutG (hg : goodB xs fs = true) {f t : Nat} (hf : f < n) (ht : t < n) (hne : f ≠ t) : fewL (cutG fs n f t) (groupsL fs).length = some (gcS fs n f t) := fewL_eq (fun L _ => cut_eqG L) (cut_allG hg hf ht hne)
theorem gcS_len (hg : goodB xs fs = true) {f t : Nat} (hf : f < n) (ht : t < n) (hne : f ≠ t) : (gcS fs n f t).length ≤ (groupsL fs).length := (fewL_low (few_cutG hg hf ht hne)).2.1
theorem setG_lt (h : fs.length ≤ 20) (i : Nat) : setG fs i < 2 ^ 20 := maskTo_lt (fun x hx => by have := group_pos x hx; omega) _ (Nat.le_refl _)
end
/-- The list of the fewest groups, or none. -/
def gcL (xs : List ByteArray) (fs : List Fib) (f t : Int) : List Int := if mcB xs fs f t then gcS fs xs.length f.toNat t.toNat else []
end Go.Proofs.Ytgoegldffjfmdaa
/- GroupCut of the program, walked. Conditions: none. -/
namespace Go.Proofs.Ytgoegldffjfmdaa
open Go.RowKit
theorem goneG_take {fs : List Fib} {L : List Int} {k : Nat} {x : Int} (h : L[k]? = some x) : goneG fs (L.take (k + 1)) = goneG fs (L.take k) ++ (groupsL fs).getD x.toNat [] := by
  unfold goneG
  rw [List.take_add_one, h]
  simp
theorem goneG_len {fs : List Fib} : ∀ L : List Int, (goneG fs L).length ≤ L.length * (fs.length + 1) := by
  intro L
  unfold goneG
  induction L with
  | nil => simp
  | cons x L ih =>
    rw [List.flatMap_cons, List.length_append, List.length_cons, Nat.succ_mul]
    have : ((groupsL fs).getD x.toNat []).length ≤ fs.length + 1 := by
      rw [List.getD_eq_getElem?_getD]
      cases h : (groupsL fs)[x.toNat]? with
      | none => simp
      | some r => exact groups_row (List.mem_of_getElem? h)
    omega
section
variable {n c m d : Nat} {A A' : Option Addr} {xs : List ByteArray} {fs : List Fib}
set_option maxHeartbeats 4000000 in
set_option maxRecDepth 100000 in
theorem groupCut1_any {B k cc gN gF gT gA f t c2 bas : Nat} {G A2 : Option Addr} {l : List Int} {ss : List Sl} (w : World) (h : NetIs w A n c A' m d xs fs) (hN : Blk w gN 34 #[.slice A n c, .slice A' m d]) (hF : Blk w gF 3 #[.int .i64 (f : Int)]) (hT : Blk w gT 3 #[.int .i64 (t : Int)])
    (hA : Blk w gA 74 #[.slice A2 (groupsL fs).length c2]) (hO : OwnsSS w bas (.slice A2 (groupsL fs).length c2) ss (groupsL fs))
    (hs : Sees elInt w B G k l) (hk : k ≤ 40) (hl : lowL (groupsL fs).length l) (hm : m ≤ 40) (he : endsB n fs) (hf : f < n) (ht : t < n) :
    Calls Try.prog 112 #[.slice G k cc, .pointer (some ⟨gA, 0, none⟩), .pointer (some ⟨gN, 0, none⟩), .pointer (some ⟨gF, 0, none⟩), .pointer (some ⟨gT, 0, none⟩)] w fun e w' => e = .returned (.bool (cutG fs n f t l)) ∧ Below w.heap.size w w' := by
  obtain ⟨i0, hi, hz0, hz1, hz2⟩ := info_parts int_info
  have hgl := groups_len fs
  have hlf := h.flen
  have HLG := hid (fun j => goneG_len (fs := fs) (l.take j))
  have HLL := hid hs.len
  obtain ⟨X, hX⟩ : ∃ X, X = goneG fs l := ⟨_, rfl⟩
  obtain ⟨y, hy⟩ : ∃ y, y = compL (goneF X) fs n := ⟨_, rfl⟩
  have HP2 : Hid (cutG fs n f t l = !(valL y f == valL y t)) := by rw [hy, hX]; rfl
  rw [HP2.out]
  clear HP2
  have HF := hid hF
  have HT := hid hT
  have HNN := hid hN
  have HAA := hid hA
  have HOO := hid hO
  have HSS := hid hs
  have HNE := hid h
  have HLO := hid hl
  have hlc : Hid (y.length = n) := by rw [hy]; exact compL_len
  have HY := hid hy
  have HX := hid hX
  obtain ⟨N, hNg⟩ : ∃ N, N = (groupsL fs).length := ⟨_, rfl⟩
  have HNG := hid hNg
  rw [← hNg] at hgl HAA HOO HLO
  clear hy hX hF hT hN hA hO hs h hl hNg
  have iF : (f : Int) < (n : Int) := by omega
  have iT : (t : Int) < (n : Int) := by omega
  have hS := (Led.nil w).empty elInt 3 w.heap.size rfl w.heap.size (Nat.le_refl _)
  have HS : Hid (Led w (w.alloc (.cells #[] 3)) [tOwns elInt w.heap.size 3 (.slice (some ⟨w.heap.size, 0, none⟩) 0 0) (goneG fs (l.take 0))]) := hS
  clear hS
  go_enter Try.func112, Try.ntmps112
  go_wp2_with fail
  go_loopw [7, 14] (fun v i wr => ∃ j : Nat, j ≤ k ∧ i = .int .i64 j ∧ Hid (Led w wr [tOwns elInt w.heap.size 3 v (goneG fs (l.take j))])) (fun _ i _ => k - (intOf i).toNat)
  case atStart => exact ⟨0, Nat.zero_le _, rfl, HS⟩
  case round =>
    clear HS
    obtain ⟨j, hj, rfl, HS⟩ := hrel
    obtain ⟨A1, c1, rfl, _⟩ := HS.out.form 0 rfl
    by_cases hlt : j < k
    · obtain ⟨x, hx⟩ := get_of (k := j) HLL.out hlt
      obtain ⟨b, o, rfl, _, hc⟩ := HSS.out.at_ hlt
      have f0 := bl_cell HS.out.bl (hc j x hx 0 _ rfl)
      simp only [elInt, Nat.mul_one, Nat.add_zero] at f0
      have hxb := HLO.out x (List.mem_of_getElem? hx)
      obtain ⟨p, rfl⟩ : ∃ p : Nat, x = (p : Int) := ⟨x.toNat, by omega⟩
      have hp : p < N := by omega
      obtain ⟨r, hr⟩ := get_of (k := p) (l := groupsL fs) HNG.out.symm hp
      obtain ⟨ga, s, rfl, _, hsk, hq, hor⟩ := (HOO.out.below HS.out.bl).at_ hr
      have hrl := groups_row (List.mem_of_getElem? hr)
      obtain ⟨A3, c3, hv, _⟩ := hor.form
      injection hv with v1 v2 v3
      rw [v2] at hq hor
      have hq0 := bl_cell HS.out.bl (HAA.out.cell 0)
      simp at hq0
      have hsr := hor.sees
      have HSR := hid hsr
      have hlen := HLG.out j
      have htl : (l.take j).length ≤ 40 := by rw [List.length_take]; omega
      have hmul : (l.take j).length * (fs.length + 1) ≤ 40 * 41 := Nat.mul_le_mul htl (by omega)
      have HLE : Hid ((goneG fs (l.take j)).length ≤ 1640) := by unfold Hid; omega
      have HTK : Hid (goneG fs (l.take (j + 1)) = goneG fs (l.take j) ++ r) := by
        unfold Hid
        rw [goneG_take hx, Int.toNat_natCast, List.getD_eq_getElem?_getD, hr]; rfl
      clear hc hx hr hsk hor v1 v2 v3 hsr hlen htl hmul hxb
      go_wp2_with (first
        | (at_builtin; refine wpList_append_led rfl _ _ 27 rfl HS.out 0 rfl Try.underlying27 hi hz0 hz1 (by rw [hz2]; decide) rfl rfl rfl HSR.out (by have := HLE.out; omega) HS.out.bl.size ?_)
        | go_in)
      intro A6 c6 w6 h6
      have HS5 := hid h6
      clear h6 HS
      go_wp2
      go_roundw
      case rel => exact ⟨j + 1, by omega, by go_num, by rw [HTK.out]; exact HS5⟩
      case measure => simp [intOf]; omega
    · have hjk : j = k := by omega
      subst hjk
      have HE : Hid (goneG fs (l.take j) = X) := by unfold Hid; rw [HX.out, List.take_of_length_le (by rw [HLL.out]; exact Nat.le_refl _)]
      have hlen := HLG.out j
      have htl : (l.take j).length ≤ 40 := by rw [List.length_take]; omega
      have hmul : (l.take j).length * (fs.length + 1) ≤ 40 * 41 := Nat.mul_le_mul htl (by omega)
      have hS2 := HS.out
      rw [HE.out] at hS2 hlen ⊢
      have hX2 : X.length ≤ 1048576 := by omega
      have HS2 := hid hS2
      have q0 := bl_cell HS2.out.bl (HNN.out.cell 0)
      have q1 := bl_cell HS2.out.bl (HNN.out.cell 1)
      simp at q0 q1
      clear hlt hlen htl hmul hS2 HS
      go_wp2_with fail
      refine (components_any _ (HNE.out.grow HS2.out.bl) (HS2.out.seesI 0 rfl) hX2 he (by omega)).mono ?_
      rintro e w1 ⟨v, rfl, ho, hb⟩
      obtain ⟨g, cV, rfl⟩ := ho.splitg compL_len (show 0 < n by omega)
      have hS := HS2.out.owns hb ho
      have c0 := bl_cell hS.bl (HF.out.cell 0)
      have c1 := bl_cell hS.bl (HT.out.cell 0)
      simp at c0 c1
      rw [← HY.out] at hS
      have F0 : ∀ w', Cls w1 w' → w'.cell? ⟨gF, 0, none⟩ = some (.int .i64 (f : Int)) := fun _ h => h.cell c0
      have T0 : ∀ w', Cls w1 w' → w'.cell? ⟨gT, 0, none⟩ = some (.int .i64 (t : Int)) := fun _ h => h.cell c1
      have V0 : ∀ w', Cls w1 w' → w'.cell? ⟨g, f, none⟩ = some (.int .i64 (valL y f)) := fun _ h => h.cell (hS.int_at 0 rfl (j := f) (by rw [hlc.out]; omega))
      have V1 : ∀ w', Cls w1 w' → w'.cell? ⟨g, t, none⟩ = some (.int .i64 (valL y t)) := fun _ h => h.cell (hS.int_at 0 rfl (j := t) (by rw [hlc.out]; omega))
      clear ho hb c0 c1
      go_wp2_with fail
      refine region_cls (by kernel_rfl) (by kernel_rfl) ?_
      repeat (first
        | ((with_reducible refine quiet_pos ?_ (fun K hK => ?_))
           · rfl
           apply Exists.intro
           refine ⟨fun w' hw' => ?_, ?_⟩
           · go_simp
             with_reducible rfl
           simp only [Act.put, List.setIfInBounds_toArray, List.set_cons_zero, List.set_cons_succ]
           refine hK _ ?_; clear hK K)
        | ((with_reducible refine quiet_neg ?_ (fun K hK => ?_))
           · rfl
           simp only [Act.put, List.setIfInBounds_toArray, List.set_cons_zero, List.set_cons_succ]
           refine hK _ ?_; clear hK K))
      with_reducible refine wpQuiet_nil ?_
      intro wz hwz'
      have HZ := hid (hS.step hwz').bl
      clear hS F0 T0 V0 V1 hwz' q0 q1 HS2
      go_wp2
      go_ret
      exact ⟨rfl, HZ.out⟩
set_option maxHeartbeats 4000000 in
set_option maxRecDepth 100000 in
theorem implGroupCut (f t : Int) (w : World) (h : NetIs w A n c A' m d xs fs) :
    Calls Try.prog 35 #[.agg #[.slice A n c, .slice A' m d], .int .i64 f, .int .i64 t] w fun e w' => ∃ v, e = .returned (.tuple #[v, .bool (mcB xs fs f t)]) ∧ Owns elInt w' w.heap.size 3 v (gcL xs fs f t) ∧ Below w.heap.size w w' := by
  have hS := ((((Led.nil w).blk_ w.heap.size rfl 34 #[.slice A n c, .slice A' m d]).blk_ (w.heap.size + 1) (by simp) 3 #[.int .i64 f]).blk_ (w.heap.size + 1 + 1) (by simp) 3 #[.int .i64 t]).blk_ (w.heap.size + 1 + 1 + 1) (by simp) 3 #[.int .i64 f, .int .i64 t]
  have hs2 : Sees elInt ((((w.alloc (.cells #[.slice A n c, .slice A' m d] 34)).alloc (.cells #[.int .i64 f] 3)).alloc (.cells #[.int .i64 t] 3)).alloc (.cells #[.int .i64 f, .int .i64 t] 3)) (w.heap.size + 1 + 1 + 1 + 1) (some ⟨w.heap.size + 1 + 1 + 1, 0, none⟩) 2 [f, t] := by
    refine ⟨rfl, .inr ⟨_, _, rfl, Nat.lt_succ_self _, fun k x hx j u hu => ?_⟩⟩
    have hj : j = 0 := by have := (List.getElem?_eq_some_iff.1 hu).1; simp [elInt] at this; omega
    subst hj
    have hu' : Value.int .i64 x = u := by simpa [elInt] using hu
    subst hu'
    rcases k with _ | _ | k
    · simp at hx; subst hx; exact hS.cell 0 0 rfl rfl
    · simp at hx; subst hx; exact hS.cell 0 1 rfl rfl
    · simp at hx
  have HB : Hid (mcB xs fs f t = ((goodB xs fs && nodesB n [f, t]) && !(f == t))) := by unfold Hid mcB; rw [nodesB_two, h.xlen, Bool.and_assoc (goodB xs fs)]
  cases g : (goodB xs fs && nodesB n [f, t])
  · have HF : Hid (mcB xs fs f t = false) := by unfold Hid; rw [HB.out, g]; rfl
    have H : Hid (gcL xs fs f t = []) := by unfold Hid gcL; rw [HF.out]; rfl
    rw [HF.out]
    go_enter Try.func35, Try.ntmps35
    go_wp2_with fail
    refine (calls_bool (isNode_any _ (h.grow hS.bl) hs2 (by decide)) g).mono ?_
    rintro e w1 ⟨rfl, hb⟩
    go_wp2_with fail
    go_ret2
    exact ⟨_, rfl, by rw [H.out]; exact World.ownsRow_nil _ _ _ _, bl_then hS.bl hb⟩
  · cases g2 : (f == t)
    · have HF : Hid (mcB xs fs f t = true) := by unfold Hid; rw [HB.out, g, g2]; rfl
      obtain ⟨hg, hf, ht, hne⟩ := mcB_parts HF.out
      obtain ⟨he, hn0, hn8, hm14⟩ := good_parts h hg
      have hfx := hf
      have htx := ht
      rw [h.xlen] at hf ht
      obtain ⟨f', rfl⟩ : ∃ f' : Nat, f = (f' : Int) := ⟨f.toNat, by omega⟩
      obtain ⟨t', rfl⟩ : ∃ t' : Nat, t = (t' : Int) := ⟨t.toNat, by omega⟩
      have hlf := h.flen
      have hgl := groups_len fs
      have H : Hid (gcL xs fs (f' : Int) (t' : Int) = gcS fs n f' t') := by unfold Hid gcL; rw [HF.out, h.xlen]; rfl
      have HW := hid (few_cutG (n := n) hg (f := f') (t := t') (by omega) (by omega) (by omega))
      rw [HF.out]
      have HN := hid h
      have HE := hid he
      have g3 : ((f' : Int) == (t' : Int)) = false := g2
      clear h he hfx htx
      go_enter Try.func35, Try.ntmps35
      go_wp2_with fail
      refine (calls_bool (isNode_any _ (HN.out.grow hS.bl) hs2 (by decide)) g).mono ?_
      rintro e w1 ⟨rfl, hb⟩
      replace hS := hS.step hb
      have q0 := hS.cell 2 0 rfl rfl
      have q1 := hS.cell 1 0 rfl rfl
      have q2 := hS.cell 3 0 rfl rfl
      have q3 := hS.cell 3 1 rfl rfl
      clear hb hs2
      go_wp2_with fail
      refine (groups_any _ (HN.out.grow hS.bl)).mono ?_
      rintro e w2 ⟨⟨A2, n2, c2⟩, ss, rfl, hss, hb2⟩
      dsimp only [slV] at hss ⊢
      obtain rfl := ss_n hss
      have hS3 := (hS.ss hb2 hss).blk_ w2.heap.size rfl 74 #[.slice A2 (groupsL fs).length c2]
      have hO2 : OwnsSS _ w1.heap.size (.slice A2 (groupsL fs).length c2) ss (groupsL fs) := hS3.get 1 rfl
      have hBA : Blk _ w2.heap.size 74 #[.slice A2 (groupsL fs).length c2] := hS3.get 0 rfl
      have hBN : Blk _ w.heap.size 34 #[.slice A n c, .slice A' m d] := hS3.get 5 rfl
      have hBF : Blk _ (w.heap.size + 1) 3 #[.int .i64 (f' : Int)] := hS3.get 4 rfl
      have hBT : Blk _ (w.heap.size + 1 + 1) 3 #[.int .i64 (t' : Int)] := hS3.get 3 rfl
      have HFW := hid (fewest_any (n := (groupsL fs).length) (p := cutG fs n f' t') (H := 112) (hcap := #[.pointer (some ⟨w2.heap.size, 0, none⟩), .pointer (some ⟨w.heap.size, 0, none⟩), .pointer (some ⟨w.heap.size + 1, 0, none⟩), .pointer (some ⟨w.heap.size + 1 + 1, 0, none⟩)]) (fun _ _ => by rfl) (by omega) _
        (fun w' L G cc hcl hs hL hLn => groupCut1_any w' ((HN.out.grow hS3.bl).grow hcl) (hBN.below hcl hBN.lt) (hBF.below hcl hBF.lt) (hBT.below hcl hBT.lt) (hBA.below hcl hBA.lt) (hO2.below hcl) hs (by omega) hL (by omega) HE.out (by omega) (by omega)))
      rw [HW.out] at HFW
      have hbl := hS3.bl
      have HBL := hid hbl
      clear hBN hBF hBT hBA hO2 hb2 hss q0 q1 q2 q3 hS hS3 hbl hgl
      go_wp2_with fail
      refine HFW.out.mono ?_
      rintro e w3 ⟨v, rfl, ho, hb3⟩
      have HO := hid (ho.base (base' := w.heap.size) HBL.out.size)
      have HZ := hid (bl_then HBL.out hb3)
      clear ho hb3
      go_wp2_with fail
      go_ret2
      exact ⟨_, rfl, by rw [H.out]; exact HO.out, HZ.out⟩
    · have HF : Hid (mcB xs fs f t = false) := by unfold Hid; rw [HB.out, g2]; simp
      have H : Hid (gcL xs fs f t = []) := by unfold Hid gcL; rw [HF.out]; rfl
      rw [HF.out]
      go_enter Try.func35, Try.ntmps35
      go_wp2_with fail
      refine (calls_bool (isNode_any _ (h.grow hS.bl) hs2 (by decide)) g).mono ?_
      rintro e w1 ⟨rfl, hb⟩
      replace hS := hS.step hb
      have q0 := hS.cell 2 0 rfl rfl
      have q1 := hS.cell 1 0 rfl rfl
      clear hb hs2
      go_wp2_with fail
      go_ret2
      exact ⟨_, rfl, by rw [H.out]; exact World.ownsRow_nil _ _ _ _, hS.bl⟩
end
end Go.Proofs.Ytgoegldffjfmdaa
/- Bridges of both sides, walked. Conditions: none. -/
namespace Go.Proofs.Ytgoegldffjfmdaa
open Go.RowKit
section
variable {n c m d : Nat} {A A' : Option Addr} {xs : List ByteArray} {fs : List Fib}
theorem shl_one {j : Nat} (h : j < 20) : wrap64 ((2 : Int) ^ j) = ((2 ^ j : Nat) : Int) := by
  have e : ((2 : Int) ^ j) = ((2 ^ j : Nat) : Int) := by simp
  rw [e]
  have h62 : 2 ^ j < 4611686018427387904 := Nat.lt_trans (Nat.pow_lt_pow_right (by decide) h) (by decide)
  generalize 2 ^ j = y at *
  exact IntWalk.wrap64_in _ (by omega)
end
end Go.Proofs.Ytgoegldffjfmdaa
