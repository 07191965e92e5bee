/- Lemmas and walks that the claim rests on, laid together. Conditions: none. -/
import Derived.Test.YtmkgicfgcoeilaaDoorZ53a7a774410d
import Derived.Test.YtmkgicfgcoeilaaDoorRows
import Derived.Test.YtmkgicfgcoeilaaDoorZ79d3fe4e2cdd
/- The reference's looks at a fiber, walked. Conditions: none. -/
namespace Go.Proofs.YtmkgicfgcoeilaaDoor
open Go.RowKit
theorem fibB_eq2 (n : Nat) (f : Fib) : fibB n f = (inB 0 ((n : Int) - 1) f.a && inB (f.a + 1) ((n : Int) - 1) f.b && inB 1 5000 f.len && inB 0 9 f.risk) := by
  unfold fibB inB; rw [Bool.eq_iff_iff]; simp; omega
set_option maxHeartbeats 1000000 in
set_option maxRecDepth 100000 in
theorem l2Fiber_any (f : Fib) (n : Nat) (w : World) (hn : n ≤ 1048576) :
    Calls Tryd.prog 39 #[fibV f, .int .i64 n] w fun e w' => e = .returned (.bool (fibB n f)) ∧ Below w.heap.size w w' := by
  obtain ⟨a, b, l, r⟩ := f
  rw [fibB_eq2]
  unfold fibV
  by_cases h1 : inB 0 ((n : Int) - 1) a = true
  · have h1' := h1
    unfold inB at h1'
    simp only [decide_eq_true_eq] at h1'
    obtain ⟨h2, h3⟩ := h1'
    have e1 : IntKind.i64.wrap ((n : Int) - 1) = (n : Int) - 1 := IntWalk.i64_in _ (by omega)
    have e2 : IntKind.i64.wrap (a + 1) = a + 1 := IntWalk.i64_in _ (by omega)
    cases h4 : inB (a + 1) ((n : Int) - 1) b <;> cases h5 : inB 1 5000 l <;> cases h6 : inB 0 9 r
    all_goals
      go_enter Tryd.func39, Tryd.ntmps39
      go_wp2_with (go_at_call 37; refine (l1In_any _ _ _ _).mono ?_; rintro e w' ⟨rfl, rfl⟩)
      go_ret
      exact ⟨ret_bool (by simp [*]), bl_alloc (Below.refl _ _) _⟩
  · have h1' : inB 0 ((n : Int) - 1) a = false := by simpa using h1
    clear h1
    go_enter Tryd.func39, Tryd.ntmps39
    go_wp2_with (go_at_call 37; refine (l1In_any _ _ _ _).mono ?_; rintro e w' ⟨rfl, rfl⟩)
    go_ret
    exact ⟨ret_bool (by simp [*]), bl_alloc (Below.refl _ _) _⟩
/-- A fiber whose numbers are small. -/
def smallF (f : Fib) : Prop := (0 ≤ f.a ∧ f.a ≤ 1048576) ∧ (0 ≤ f.b ∧ f.b ≤ 1048576) ∧ (0 ≤ f.len ∧ f.len ≤ 1048576) ∧ (0 ≤ f.risk ∧ f.risk ≤ 1048576)
theorem smallF_of {n : Nat} {f : Fib} (hn : n ≤ 1048576) (h : fibB n f = true) : smallF f := by unfold fibB at h; unfold smallF; simp at h; omega
set_option maxHeartbeats 1000000 in
set_option maxRecDepth 100000 in
theorem l2Before_any (f g : Fib) (w : World) (hf : smallF f) (hg : smallF g) :
    Calls Tryd.prog 40 #[fibV f, fibV g] w fun e w' => e = .returned (.int .i64 (befF f g)) ∧ Below w.heap.size w w' := by
  obtain ⟨a, b, l, r⟩ := f
  obtain ⟨a', b', l', r'⟩ := g
  obtain ⟨⟨h1, h2⟩, ⟨h3, h4⟩, ⟨h5, h6⟩, ⟨h7, h8⟩⟩ := hf
  obtain ⟨⟨k1, k2⟩, ⟨k3, k4⟩, ⟨k5, k6⟩, ⟨k7, k8⟩⟩ := hg
  simp only at h1 h2 h3 h4 h5 h6 h7 h8 k1 k2 k3 k4 k5 k6 k7 k8
  unfold fibV befF
  simp only
  by_cases e1 : a = a'
  · have e1' : (a != a') = false := by simp [e1]
    rw [if_pos e1]; clear e1
    by_cases e2 : b = b'
    · have e2' : (b != b') = false := by simp [e2]
      rw [if_pos e2]; clear e2
      by_cases e3 : l = l'
      · have e3' : (l != l') = false := by simp [e3]
        rw [if_pos e3]; clear e3
        go_enter Tryd.func40, Tryd.ntmps40
        go_wp2
        go_ret
        exact ⟨rfl, bl_alloc (bl_alloc (Below.refl _ _) _) _⟩
      · have e3' : (l != l') = true := by simp [e3]
        rw [if_neg e3]; clear e3
        go_enter Tryd.func40, Tryd.ntmps40
        go_wp2
        go_ret
        exact ⟨rfl, bl_alloc (bl_alloc (Below.refl _ _) _) _⟩
    · have e2' : (b != b') = true := by simp [e2]
      rw [if_neg e2]; clear e2
      go_enter Tryd.func40, Tryd.ntmps40
      go_wp2
      go_ret
      exact ⟨rfl, bl_alloc (bl_alloc (Below.refl _ _) _) _⟩
  · have e1' : (a != a') = true := by simp [e1]
    rw [if_neg e1]; clear e1
    go_enter Tryd.func40, Tryd.ntmps40
    go_wp2
    go_ret
    exact ⟨rfl, bl_alloc (bl_alloc (Below.refl _ _) _) _⟩
end Go.Proofs.YtmkgicfgcoeilaaDoor
/- The reference's l2Find, walked. Conditions: none. -/
namespace Go.Proofs.YtmkgicfgcoeilaaDoor
open Go.RowKit
theorem l2Find_any {B n c : Nat} {A : Option Addr} {xs : List ByteArray} (s : ByteArray) (w : World) (hA : Sees elStr w B A n xs) (hn : n ≤ maxLen) :
    Calls Tryd.prog 36 #[.slice A n c, .string s] w fun e w' => e = .returned (.int .i64 (findI xs s)) ∧ w = w' := by
  unfold maxLen at hn
  go_enter Tryd.func36, Tryd.ntmps36
  go_wp2
  go_loop [5] (fun i => ∃ k : Nat, k ≤ n ∧ i = .int .i64 k ∧ Hid (noneTo xs s k)) (fun i => n - (intOf i).toNat)
  case atStart => exact ⟨0, Nat.zero_le _, rfl, noneTo_zero⟩
  case round =>
    obtain ⟨k, hk, rfl, hno⟩ := hrel
    by_cases hlt : k < n
    · obtain ⟨b, o, rfl, _, hx⟩ := hA.at_ hlt
      obtain ⟨x, hxk⟩ : ∃ x, xs[k]? = some x := ⟨xs[k]'(by rw [hA.len]; exact hlt), List.getElem?_eq_getElem _⟩
      have hc := hx k x hxk 0 _ rfl
      simp only [elStr, Nat.mul_one, Nat.add_zero] at hc
      clear hx
      by_cases heq : x = s
      · subst heq
        have HF := hid (findI_at hno hxk)
        clear hxk
        go_wp2
        go_ret
        exact ⟨by rw [HF.out]; rfl, rfl⟩
      · have hne := str_ne heq
        have HN := hid (noneTo_succ hno hxk heq)
        clear hxk hno
        go_wp2
        go_round
        case rel => exact ⟨k + 1, by omega, by go_num, HN⟩
        case measure => simp [intOf]; omega
    · have HF : Hid (findI xs s = -1) := findI_none hA.len (by obtain rfl : k = n := (by omega); exact hno.out)
      go_wp2
      go_ret
      exact ⟨by rw [HF.out]; rfl, rfl⟩
end Go.Proofs.YtmkgicfgcoeilaaDoor
/- The reference's look at a name, walked: it answers as nameB. Conditions: none. -/
namespace Go.Proofs.YtmkgicfgcoeilaaDoor
open Go.RowKit
set_option maxRecDepth 100000 in
theorem l2Sign_any (c : UInt8) (w : World) : Calls Tryd.prog 55 #[.int .u8 c.toNat] w fun e w' => e = .returned (.bool (letB c || digB c)) ∧ w = w' := by
  have hb : (c.toNat : Int) < 256 := by have := c.toNat_lt; omega
  rcases byte_cases c.toNat with h1 | ⟨h1, h2⟩ | ⟨h1, h2⟩ | ⟨h1, h2⟩ | h1
  all_goals
    go_enter Tryd.func55, Tryd.ntmps55
    go_wp2
    go_ret
    exact ⟨ret_bool (by unfold letB digB; rw [Bool.eq_iff_iff]; simp; omega), rfl⟩
/-- Behind the first byte's look, the rest of the reference's look. -/
theorem nameB_first {l : List UInt8} {c : UInt8} (hc : l[0]? = some c) (h : letB c = false) : nameB l = false := nameB_no hc (by unfold okAt; simp [h])
theorem nameB_long {l : List UInt8} (h : inB 1 8 l.length = false) : nameB l = false := by
  unfold nameB inB at *
  rw [Bool.and_eq_false_iff]
  refine .inl ?_
  rw [← h]; rw [Bool.eq_iff_iff]; simp only [decide_eq_true_eq]; omega
def sgTo (l : List UInt8) (k : Nat) : Prop := ∀ j c, j < k → l[j]? = some c → (letB c || digB c) = true
theorem sgTo_succ {l : List UInt8} {k : Nat} {c : UInt8} (h : sgTo l k) (hc : l[k]? = some c) (ho : (letB c || digB c) = true) : sgTo l (k + 1) := by
  intro j d hj hd
  rcases Nat.lt_succ_iff_lt_or_eq.1 hj with hlt | rfl
  · exact h j d hlt hd
  · rw [hc] at hd; injection hd with hd; subst hd; exact ho
theorem nameB_sg {l : List UInt8} {c0 : UInt8} (h : sgTo l l.length) (hc : l[0]? = some c0) (h0 : letB c0 = true) (hl : inB 1 8 l.length = true) : nameB l = true := by
  rw [nameB_yes, hl]
  intro j c hj hjc
  have := h j c hj hjc
  unfold okAt
  rcases Nat.eq_zero_or_pos j with rfl | hp
  · rw [hc] at hjc; injection hjc with hjc; subst hjc; simp [h0]
  · have : (j == 0) = false := by simp; omega
    rw [this]; simpa using h j c hj hjc
theorem nameB_bad {l : List UInt8} {k : Nat} {c : UInt8} (hc : l[k]? = some c) (h : (letB c || digB c) = false) : nameB l = false := by
  rw [Bool.or_eq_false_iff] at h
  exact nameB_no hc (by unfold okAt; simp [h.1, h.2])
set_option maxHeartbeats 1000000 in
set_option maxRecDepth 100000 in
theorem l2Name_any (s : ByteArray) (w : World) (hs : s.size ≤ maxLen) :
    Calls Tryd.prog 38 #[.string s] w fun e w' => e = .returned (.bool (nameB s.data.toList)) ∧ w = w' := by
  unfold maxLen at hs
  by_cases hin : inB 1 8 s.size = true
  · have hin' := hin
    unfold inB at hin'
    simp only [decide_eq_true_eq] at hin'
    have h0 : 0 < s.size := by omega
    have hg := get_list s 0 h0
    generalize hc : s[0] = c at hg
    have hget : s[0] = c := hc
    clear hc
    have hb : (c.toNat : Int) < 256 := by have := c.toNat_lt; omega
    by_cases hlet : letB c = true
    · have hl2 := hlet
      unfold letB at hl2
      simp only [decide_eq_true_eq] at hl2
      obtain ⟨hl3, hl4⟩ := hl2
      have hl5 : decide ((c.toNat : Int) < 97) = false := by simp; omega
      have hl6 : decide ((122 : Int) < (c.toNat : Int)) = false := by simp; omega
      have HG := hid hg
      have HL := hid hlet
      have HI := hid hin
      clear hg hlet
      go_enter Tryd.func38, Tryd.ntmps38
      go_wp2_with (go_at_call 37; refine (l1In_any _ _ _ _).mono ?_; rintro e w' ⟨rfl, rfl⟩)
      clear hget hl5 hl6 hin
      go_loop [3] (fun i => ∃ k : Nat, k ≤ s.size ∧ i = .int .i64 k ∧ Hid (sgTo s.data.toList k)) (fun i => s.size - (intOf i).toNat)
      case atStart => exact ⟨0, Nat.zero_le _, rfl, fun j c hj => by omega⟩
      case round =>
        obtain ⟨k, hk, rfl, hok⟩ := hrel
        by_cases hlt : k < s.size
        · have hgk := get_list s k hlt
          generalize hc : s[k] = d at hgk
          have hget : s[k] = d := hc
          clear hc
          by_cases hd : (letB d || digB d) = true
          · have HY : Hid (sgTo s.data.toList (k + 1)) := sgTo_succ hok hgk hd
            clear hgk
            go_wp2_with (go_at_call 55; refine (l2Sign_any d _).mono ?_; rintro e w' ⟨rfl, rfl⟩)
            go_round
            case rel => exact ⟨k + 1, by omega, by go_num, HY⟩
            case measure => simp [intOf]; omega
          · have hd' : (letB d || digB d) = false := by simpa using hd
            have HN : Hid (nameB s.data.toList = false) := nameB_bad hgk hd'
            clear hgk hd
            go_wp2_with (go_at_call 55; refine (l2Sign_any d _).mono ?_; rintro e w' ⟨rfl, rfl⟩)
            go_ret
            exact ⟨ret_bool HN.out.symm, rfl⟩
        · have HY : Hid (nameB s.data.toList = true) := nameB_sg (by rw [size_list]; obtain rfl : k = s.size := (by omega); exact hok.out) HG.out HL.out (by rw [size_list]; exact HI.out)
          go_wp2
          go_ret
          exact ⟨ret_bool HY.out.symm, rfl⟩
    · have hlet' : letB c = false := by simpa using hlet
      have HN : Hid (nameB s.data.toList = false) := nameB_first hg hlet'
      clear hg hlet
      have hlt : c.toNat < 97 ∨ 122 < c.toNat := by
        unfold letB at hlet'; simp at hlet'; omega
      clear hlet'
      rcases hlt with h1 | h1
      · have hl5 : decide ((c.toNat : Int) < 97) = true := by simp; omega
        go_enter Tryd.func38, Tryd.ntmps38
        go_wp2_with (go_at_call 37; refine (l1In_any _ _ _ _).mono ?_; rintro e w' ⟨rfl, rfl⟩)
        go_ret
        exact ⟨ret_bool HN.out.symm, rfl⟩
      · have hl5 : decide ((c.toNat : Int) < 97) = false := by simp; omega
        have hl6 : decide ((122 : Int) < (c.toNat : Int)) = true := by simp; omega
        go_enter Tryd.func38, Tryd.ntmps38
        go_wp2_with (go_at_call 37; refine (l1In_any _ _ _ _).mono ?_; rintro e w' ⟨rfl, rfl⟩)
        go_ret
        exact ⟨ret_bool HN.out.symm, rfl⟩
  · have hin' : inB 1 8 s.size = false := by simpa using hin
    have HN : Hid (nameB s.data.toList = false) := nameB_long (by rw [size_list]; exact hin')
    clear hin
    go_enter Tryd.func38, Tryd.ntmps38
    go_wp2_with (go_at_call 37; refine (l1In_any _ _ _ _).mono ?_; rintro e w' ⟨rfl, rfl⟩)
    go_ret
    exact ⟨ret_bool HN.out.symm, rfl⟩
end Go.Proofs.YtmkgicfgcoeilaaDoor
/- The reference's l2Good, walked: it returns goodB. Conditions: none. -/
namespace Go.Proofs.YtmkgicfgcoeilaaDoor
open Go.RowKit
theorem find_take {xs : List ByteArray} {k : Nat} {x : ByteArray} (hx : xs[k]? = some x) : hasB (xs.take k) x = true ↔ findI xs x ≠ (k : Int) := by
  rw [hasB_iff]
  constructor
  · intro h e
    obtain ⟨j, hj, hj2⟩ := List.mem_iff_getElem.1 h
    have hjk : j < k := by rw [List.length_take] at hj; omega
    have hjl : j < xs.length := by rw [List.length_take] at hj; omega
    have hxj : xs[j]? = some x := by rw [List.getElem?_eq_getElem hjl, ← hj2, List.getElem_take]
    -- the first place of x lies at j or before
    have key : ∀ (l : List ByteArray) (k0 j : Nat), l[j]? = some x → findFrom x l k0 ≤ ((k0 + j : Nat) : Int) := by
      intro l
      induction l with
      | nil => intro k0 j h; simp at h
      | cons y l ih =>
        intro k0 j h
        unfold findFrom
        by_cases hy : y = x
        · rw [if_pos hy]; omega
        · rw [if_neg hy]
          cases j with
          | zero => simp at h; exact absurd h hy
          | succ j => have := ih (k0 + 1) j (by simpa using h); omega
    have := key xs 0 j hxj
    unfold findI at e
    omega
  · intro h
    refine Classical.byContradiction fun hn => h ?_
    refine findI_at ?_ hx
    intro j hj hxj
    refine hn (List.mem_iff_getElem.2 ⟨j, ?_, ?_⟩)
    · rw [List.length_take]; have := (List.getElem?_eq_some_iff.1 hx).1; omega
    · obtain ⟨h1, h2⟩ := List.getElem?_eq_some_iff.1 hxj
      rw [List.getElem_take]; exact h2
theorem goodB_all {xs : List ByteArray} {fs : List Fib} (h1 : decide (2 ≤ xs.length ∧ xs.length ≤ 8) = true) (h2 : decide (fs.length ≤ 14) = true) (h3 : allTo (nameAt xs) xs.length) (h4 : allTo (fibAt xs.length fs) fs.length) : goodB xs fs = true := by
  rw [goodB_rest h3 h4, h1, h2]; rfl
set_option maxHeartbeats 2000000 in
set_option maxRecDepth 100000 in
theorem l2Good_any {B n c m d : Nat} {A A' : Option Addr} {xs : List ByteArray} {fs : List Fib} (w : World) (hA : Sees elStr w B A n xs) (hF : Sees elFib w B A' m fs) (hB : B ≤ w.heap.size) (hn : n ≤ 1048576) (hm : m ≤ 1048576)
    (hx : ∀ x ∈ xs, x.size ≤ maxLen) :
    Calls Tryd.prog 24 #[.agg #[.slice A n c, .slice A' m d]] w fun e w' => e = .returned (.bool (goodB xs fs)) ∧ Below w.heap.size w w' := by
  have hlx := hA.len
  have hlf := hF.len
  by_cases r1 : inB 2 8 n = true
  · by_cases r2 : m ≤ 14
    · have r1' := r1
      unfold inB at r1'
      have R1 : Hid (decide (2 ≤ xs.length ∧ xs.length ≤ 8) = true) := by rw [hlx]; simp only [decide_eq_true_eq] at r1' ⊢; show _ ∧ _; omega
      have R2 : Hid (decide (fs.length ≤ 14) = true) := hid (by rw [hlf]; simpa using r2)
      have r3 : decide ((14 : Int) < (m : Int)) = false := by simp; omega
      have r4 : decide (14 < m) = false := by simp; omega
      have HLX := hid hlx
      have HLF := hid hlf
      clear r1' r2 hlx hlf
      go_enter Tryd.func24, Tryd.ntmps24
      go_wp2_with (go_at_call 37; refine (l1In_any _ _ _ _).mono ?_; rintro e w' ⟨rfl, rfl⟩)
      obtain ⟨wo, hwo⟩ : ∃ wo : World, wo = w.alloc (.cells #[.slice A n c, .slice A' m d] 25) := ⟨_, rfl⟩
      rw [← hwo]
      have g0 : wo.cell? ⟨w.heap.size, 0, none⟩ = some (.slice A n c) := by rw [hwo]; go_simp
      have g1 : wo.cell? ⟨w.heap.size, 1, none⟩ = some (.slice A' m d) := by rw [hwo]; go_simp
      have hbo : Below w.heap.size w wo := by rw [hwo]; exact bl_alloc (Below.refl _ _) _
      clear hwo r1 r3 r4
      go_loopw [3] (fun i wr => ∃ k : Nat, k ≤ n ∧ i = .int .i64 k ∧ Hid (allTo (nameAt xs) k) ∧ Below wo.heap.size wo wr) (fun i _ => n - (intOf i).toNat)
      case atStart => exact ⟨0, Nat.zero_le _, rfl, allTo_zero _, Below.refl _ _⟩
      case round =>
        obtain ⟨k, hk, rfl, hall, hb⟩ := hrel
        have c0 := bl_cell hb g0
        have c1 := bl_cell hb g1
        have hbw := bl_then hbo hb
        by_cases hlt : k < n
        · obtain ⟨b, o, rfl, _, hc⟩ := hA.at_ hlt
          obtain ⟨x, hxk⟩ := get_of hA.len hlt
          have hcx := bl_cell hbw (hc k x hxk 0 _ rfl)
          simp only [elStr, Nat.mul_one, Nat.add_zero] at hcx
          have hxs : x.size ≤ maxLen := hx x (List.mem_of_getElem? hxk)
          have hS := hid ((hA.below (hbw.mono hB)).more (Nat.le_trans hB hbw.size))
          clear hc g0 g1
          have hat : nameAt xs k = (nameB x.data.toList && !hasB (xs.take k) x) := by unfold nameAt; rw [getD_of hxk]
          have hft := find_take hxk
          clear hxk
          go_wp2
          have C0 : ∀ w', Cls wr w' → w'.cell? ⟨w.heap.size, 0, none⟩ = some (.slice (some ⟨b, o, none⟩) n c) := fun _ h => h.cell c0
          have C2 : ∀ w', Cls wr w' → w'.cell? ⟨b, o + k, none⟩ = some (.string x) := fun _ h => h.cell hcx
          have C3 : Hid (∀ w', Cls wr w' → Sees elStr w' wr.heap.size (some ⟨b, o, none⟩) n xs) := fun w' h => hS.out.below h
          clear c0 c1 hcx hS
          have i1 : (k : Int) < (n : Int) := by omega
          by_cases h1 : nameB x.data.toList = true
          · by_cases h2 : hasB (xs.take k) x = true
            · have HN : Hid (goodB xs fs = false) := goodB_name (by rw [HLX.out]; exact hlt) (by rw [hat, h1, h2]; rfl)
              have e1 : (findI xs x != (k : Int)) = true := by rw [bne_iff_ne]; exact hft.1 h2
              clear hat hft h2
              refine region_cls (by kernel_rfl) (by kernel_rfl) ?_
              repeat (first
                | ((with_reducible refine quiet_pos ?_ (fun K hK => ?_))
                   · rfl
                   apply Exists.intro
                   refine ⟨fun w' hw' => ?_, ?_⟩
                   · go_simp
                     first
                       | with_reducible rfl
                       | (go_at_call 38; exact hw'.same (l2Name_any x _ hxs))
                       | (go_at_call 36; exact hw'.same (l2Find_any x _ (C3.out _ hw') (by simp only [maxLen]; omega)))
                   simp only [Act.put, List.setIfInBounds_toArray, List.set_cons_zero, List.set_cons_succ]
                   refine hK _ ?_; clear hK K)
                | ((with_reducible refine quiet_neg ?_ (fun K hK => ?_))
                   · rfl
                   simp only [Act.put, List.setIfInBounds_toArray, List.set_cons_zero, List.set_cons_succ]
                   refine hK _ ?_; clear hK K))
              with_reducible refine wpQuiet_nil ?_
              intro w3 hw3
              go_wp2
              go_ret
              exact ⟨ret_bool HN.out.symm, bl_then hbw hw3⟩
            · have h2' : hasB (xs.take k) x = false := by simpa using h2
              have HY : Hid (allTo (nameAt xs) (k + 1)) := allTo_succ hall (by rw [hat, h1, h2']; rfl)
              have e1 : (findI xs x != (k : Int)) = false := by rw [bne_eq_false_iff_eq]; exact Classical.byContradiction fun hne => h2 (hft.2 hne)
              clear hat hft h2 h2'
              refine region_cls (by kernel_rfl) (by kernel_rfl) ?_
              repeat (first
                | ((with_reducible refine quiet_pos ?_ (fun K hK => ?_))
                   · rfl
                   apply Exists.intro
                   refine ⟨fun w' hw' => ?_, ?_⟩
                   · go_simp
                     first
                       | with_reducible rfl
                       | (go_at_call 38; exact hw'.same (l2Name_any x _ hxs))
                       | (go_at_call 36; exact hw'.same (l2Find_any x _ (C3.out _ hw') (by simp only [maxLen]; omega)))
                   simp only [Act.put, List.setIfInBounds_toArray, List.set_cons_zero, List.set_cons_succ]
                   refine hK _ ?_; clear hK K)
                | ((with_reducible refine quiet_neg ?_ (fun K hK => ?_))
                   · rfl
                   simp only [Act.put, List.setIfInBounds_toArray, List.set_cons_zero, List.set_cons_succ]
                   refine hK _ ?_; clear hK K))
              with_reducible refine wpQuiet_nil ?_
              intro w3 hw3
              go_wp2
              go_roundw
              case rel => exact ⟨k + 1, by omega, by go_num, HY, bl_then hb hw3⟩
              case measure => simp [intOf]; omega
          · have h1' : nameB x.data.toList = false := by simpa using h1
            have HN : Hid (goodB xs fs = false) := goodB_name (by rw [HLX.out]; exact hlt) (by rw [hat, h1']; rfl)
            clear hat hft h1
            refine region_cls (by kernel_rfl) (by kernel_rfl) ?_
            repeat (first
              | ((with_reducible refine quiet_pos ?_ (fun K hK => ?_))
                 · rfl
                 apply Exists.intro
                 refine ⟨fun w' hw' => ?_, ?_⟩
                 · go_simp
                   first
                     | with_reducible rfl
                     | (go_at_call 38; exact hw'.same (l2Name_any x _ hxs))
                     | (go_at_call 36; exact hw'.same (l2Find_any x _ (C3.out _ hw') (by simp only [maxLen]; omega)))
                 simp only [Act.put, List.setIfInBounds_toArray, List.set_cons_zero, List.set_cons_succ]
                 refine hK _ ?_; clear hK K)
              | ((with_reducible refine quiet_neg ?_ (fun K hK => ?_))
                 · rfl
                 simp only [Act.put, List.setIfInBounds_toArray, List.set_cons_zero, List.set_cons_succ]
                 refine hK _ ?_; clear hK K))
            with_reducible refine wpQuiet_nil ?_
            intro w3 hw3
            go_wp2
            go_ret
            exact ⟨ret_bool HN.out.symm, bl_then hbw hw3⟩
        · have hnames : Hid (allTo (nameAt xs) xs.length) := by obtain rfl : k = n := (by omega); rw [HLX.out]; exact hall.out
          clear hall
          go_wp2
          obtain ⟨wp, rfl⟩ : ∃ wp : World, wp = wr := ⟨_, rfl⟩
          clear c0 c1 hlt hk
          go_loopw [4] (fun i wr => ∃ j : Nat, j ≤ m ∧ i = .int .i64 j ∧ Hid (allTo (fibAt n fs) j) ∧ Below wo.heap.size wo wr) (fun i _ => m - (intOf i).toNat)
          case atStart => exact ⟨0, Nat.zero_le _, rfl, allTo_zero _, hb⟩
          case round =>
            clear hb hbw
            obtain ⟨j, hj, rfl, hall, hb⟩ := hrel
            have c0 := bl_cell hb g0
            have c1 := bl_cell hb g1
            have hbw := bl_then hbo hb
            by_cases hlt : j < m
            · obtain ⟨b, o, rfl, _, hc⟩ := hF.at_ hlt
              obtain ⟨f, hfj⟩ := get_of hF.len hlt
              have f0 := bl_cell hbw (hc j f hfj 0 _ rfl)
              have f1 := bl_cell hbw (hc j f hfj 1 _ rfl)
              have f2 := bl_cell hbw (hc j f hfj 2 _ rfl)
              have f3 := bl_cell hbw (hc j f hfj 3 _ rfl)
              simp only [elFib, Nat.add_zero] at f0 f1 f2 f3
              have hg : 0 < j → ∃ g, fs[j - 1]? = some g ∧ wr.cell? ⟨b, o + (j - 1) * 4, none⟩ = some (.int .i64 g.a) ∧ wr.cell? ⟨b, o + (j - 1) * 4 + 1, none⟩ = some (.int .i64 g.b) ∧ wr.cell? ⟨b, o + (j - 1) * 4 + 2, none⟩ = some (.int .i64 g.len) ∧ wr.cell? ⟨b, o + (j - 1) * 4 + 3, none⟩ = some (.int .i64 g.risk) := by
                intro hj0
                obtain ⟨g, hgj⟩ := get_of (k := j - 1) hF.len (by omega)
                exact ⟨g, hgj, bl_cell hbw (hc (j - 1) g hgj 0 _ rfl), bl_cell hbw (hc (j - 1) g hgj 1 _ rfl), bl_cell hbw (hc (j - 1) g hgj 2 _ rfl), bl_cell hbw (hc (j - 1) g hgj 3 _ rfl)⟩
              clear hc g0 g1
              go_wp2
              have C0 : ∀ w', Cls wr w' → w'.cell? ⟨w.heap.size, 0, none⟩ = some (.slice A n c) := fun _ h => h.cell c0
              have C1 : ∀ w', Cls wr w' → w'.cell? ⟨w.heap.size, 1, none⟩ = some (.slice (some ⟨b, o, none⟩) m d) := fun _ h => h.cell c1
              have T0 : ∀ w', Cls wr w' → w'.cell? ⟨b, o + j * 4, none⟩ = some (.int .i64 f.a) := fun _ h => h.cell f0
              have T1 : ∀ w', Cls wr w' → w'.cell? ⟨b, o + j * 4 + 1, none⟩ = some (.int .i64 f.b) := fun _ h => h.cell f1
              have T2 : ∀ w', Cls wr w' → w'.cell? ⟨b, o + j * 4 + 2, none⟩ = some (.int .i64 f.len) := fun _ h => h.cell f2
              have T3 : ∀ w', Cls wr w' → w'.cell? ⟨b, o + j * 4 + 3, none⟩ = some (.int .i64 f.risk) := fun _ h => h.cell f3
              clear c0 c1 f0 f1 f2 f3
              have i0 : (j : Int) < (m : Int) := by omega
              have hfat : fibAt n fs j = (fibB n f && (j == 0 || decide (cmpFib (fs.getD (j - 1) default) f ≤ 0))) := by unfold fibAt; rw [getD_of hfj]
              clear hfj
              by_cases hok : fibB n f = true
              · by_cases hj0 : j = 0
                · have HY : Hid (allTo (fibAt n fs) (j + 1)) := allTo_succ hall (by rw [hfat, hok, hj0]; rfl)
                  have e6 : decide (0 < j) = false := by simp; omega
                  clear hfat hg hj0
                  refine region_cls (by kernel_rfl) (by kernel_rfl) ?_
                  repeat (first
                    | ((with_reducible refine quiet_pos ?_ (fun K hK => ?_))
                       · rfl
                       apply Exists.intro
                       refine ⟨fun w' hw' => ?_, ?_⟩
                       · go_simp
                         first
                           | with_reducible rfl
                           | (go_at_call 39; exact hw'.call (l2Fiber_any f n _ hn))
                       simp only [Act.put, List.setIfInBounds_toArray, List.set_cons_zero, List.set_cons_succ]
                       refine hK _ ?_; clear hK K)
                    | ((with_reducible refine quiet_neg ?_ (fun K hK => ?_))
                       · rfl
                       simp only [Act.put, List.setIfInBounds_toArray, List.set_cons_zero, List.set_cons_succ]
                       refine hK _ ?_; clear hK K))
                  with_reducible refine wpQuiet_nil ?_
                  intro w3 hw3
                  go_wp2
                  go_roundw
                  case rel => exact ⟨j + 1, by omega, by go_num, HY, bl_then hb hw3⟩
                  case measure => simp [intOf]; omega
                · obtain ⟨g, hgj, q0, q1, q2, q3⟩ := hg (by omega)
                  have e6 : decide (0 < j) = true := by simp; omega
                  have hsf := hid (smallF_of hn hok)
                  have hsg : Hid (smallF g) := by
                    refine smallF_of hn ?_
                    have := hall.out (j - 1) (by omega)
                    unfold fibAt at this
                    rw [getD_of hgj, Bool.and_eq_true] at this
                    exact this.1
                  have Q0 : ∀ w', Cls wr w' → w'.cell? ⟨b, o + (j - 1) * 4, none⟩ = some (.int .i64 g.a) := fun _ h => h.cell q0
                  have Q1 : ∀ w', Cls wr w' → w'.cell? ⟨b, o + (j - 1) * 4 + 1, none⟩ = some (.int .i64 g.b) := fun _ h => h.cell q1
                  have Q2 : ∀ w', Cls wr w' → w'.cell? ⟨b, o + (j - 1) * 4 + 2, none⟩ = some (.int .i64 g.len) := fun _ h => h.cell q2
                  have Q3 : ∀ w', Cls wr w' → w'.cell? ⟨b, o + (j - 1) * 4 + 3, none⟩ = some (.int .i64 g.risk) := fun _ h => h.cell q3
                  clear q0 q1 q2 q3
                  rw [getD_of hgj] at hfat
                  have i1 : IntKind.i64.wrap ((j : Int) - 1) = (j : Int) - 1 := IntWalk.i64_in _ (by omega)
                  have i2 : (0 : Int) ≤ (j : Int) - 1 := by omega
                  have i3 : ((j : Int) - 1).toNat = j - 1 := by omega
                  have i4 : (j : Int) - 1 < (m : Int) := by omega
                  have i5 : (1 : Int) ≤ (j : Int) := by omega
                  have i6 : 1 ≤ j := by omega
                  by_cases hcmp : befF g f ≤ 0
                  · have HY : Hid (allTo (fibAt n fs) (j + 1)) := allTo_succ hall (by rw [hfat, hok]; simp [(befF_le g f).1 hcmp])
                    have e7 : decide (0 < befF g f) = false := by simp; omega
                    clear hfat hg hcmp hgj
                    refine region_cls (by kernel_rfl) (by kernel_rfl) ?_
                    repeat (first
                      | ((with_reducible refine quiet_pos ?_ (fun K hK => ?_))
                         · rfl
                         apply Exists.intro
                         refine ⟨fun w' hw' => ?_, ?_⟩
                         · go_simp
                           first
                             | with_reducible rfl
                             | (go_at_call 39; exact hw'.call (l2Fiber_any f n _ hn))
                             | (go_at_call 40; exact hw'.call (l2Before_any g f _ hsg.out hsf.out))
                         simp only [Act.put, List.setIfInBounds_toArray, List.set_cons_zero, List.set_cons_succ]
                         refine hK _ ?_; clear hK K)
                      | ((with_reducible refine quiet_neg ?_ (fun K hK => ?_))
                         · rfl
                         simp only [Act.put, List.setIfInBounds_toArray, List.set_cons_zero, List.set_cons_succ]
                         refine hK _ ?_; clear hK K))
                    with_reducible refine wpQuiet_nil ?_
                    intro w3 hw3
                    go_wp2
                    go_roundw
                    case rel => exact ⟨j + 1, by omega, by go_num, HY, bl_then hb hw3⟩
                    case measure => simp [intOf]; omega
                  · have HN : Hid (goodB xs fs = false) := goodB_fibAt (by rw [HLF.out]; exact hlt) (by rw [HLX.out, hfat, hok]; simp [hj0, show ¬ cmpFib g f ≤ 0 from fun h => hcmp ((befF_le g f).2 h)])
                    have e7 : decide (0 < befF g f) = true := by simp; omega
                    clear hfat hg hcmp hgj
                    refine region_cls (by kernel_rfl) (by kernel_rfl) ?_
                    repeat (first
                      | ((with_reducible refine quiet_pos ?_ (fun K hK => ?_))
                         · rfl
                         apply Exists.intro
                         refine ⟨fun w' hw' => ?_, ?_⟩
                         · go_simp
                           first
                             | with_reducible rfl
                             | (go_at_call 39; exact hw'.call (l2Fiber_any f n _ hn))
                             | (go_at_call 40; exact hw'.call (l2Before_any g f _ hsg.out hsf.out))
                         simp only [Act.put, List.setIfInBounds_toArray, List.set_cons_zero, List.set_cons_succ]
                         refine hK _ ?_; clear hK K)
                      | ((with_reducible refine quiet_neg ?_ (fun K hK => ?_))
                         · rfl
                         simp only [Act.put, List.setIfInBounds_toArray, List.set_cons_zero, List.set_cons_succ]
                         refine hK _ ?_; clear hK K))
                    with_reducible refine wpQuiet_nil ?_
                    intro w3 hw3
                    go_wp2
                    go_ret
                    exact ⟨ret_bool HN.out.symm, bl_then hbw hw3⟩
              · have hok' : fibB n f = false := by simpa using hok
                have HN : Hid (goodB xs fs = false) := goodB_fibAt (by rw [HLF.out]; exact hlt) (by rw [HLX.out, hfat, hok']; rfl)
                clear hfat hg hok
                refine region_cls (by kernel_rfl) (by kernel_rfl) ?_
                repeat (first
                  | ((with_reducible refine quiet_pos ?_ (fun K hK => ?_))
                     · rfl
                     apply Exists.intro
                     refine ⟨fun w' hw' => ?_, ?_⟩
                     · go_simp
                       first
                         | with_reducible rfl
                         | (go_at_call 39; exact hw'.call (l2Fiber_any f n _ hn))
                     simp only [Act.put, List.setIfInBounds_toArray, List.set_cons_zero, List.set_cons_succ]
                     refine hK _ ?_; clear hK K)
                  | ((with_reducible refine quiet_neg ?_ (fun K hK => ?_))
                     · rfl
                     simp only [Act.put, List.setIfInBounds_toArray, List.set_cons_zero, List.set_cons_succ]
                     refine hK _ ?_; clear hK K))
                with_reducible refine wpQuiet_nil ?_
                intro w3 hw3
                go_wp2
                go_ret
                exact ⟨ret_bool HN.out.symm, bl_then hbw hw3⟩
            · have hfibs : Hid (allTo (fibAt n fs) fs.length) := by obtain rfl : j = m := (by omega); rw [HLF.out]; exact hall.out
              have HR := hid (goodB_all R1.out R2.out hnames.out (by rw [HLX.out]; exact hfibs.out))
              clear hall g0 g1
              go_wp2
              go_ret
              exact ⟨ret_bool HR.out.symm, hbw⟩
    · have HN : Hid (goodB xs fs = false) := goodB_fib (by rw [hlf]; simpa using r2)
      have r3 : decide ((14 : Int) < (m : Int)) = true := by simp; omega
      have r4 : decide (14 < m) = true := by simp; omega
      clear hlx hlf
      go_enter Tryd.func24, Tryd.ntmps24
      go_wp2_with (go_at_call 37; refine (l1In_any _ _ _ _).mono ?_; rintro e w' ⟨rfl, rfl⟩)
      go_ret
      exact ⟨ret_bool HN.out.symm, bl_alloc (Below.refl _ _) _⟩
  · have r1' : inB 2 8 n = false := by simpa using r1
    have HN : Hid (goodB xs fs = false) := goodB_len (by rw [hlx]; unfold inB at r1'; simp only [decide_eq_false_iff_not] at r1' ⊢; omega)
    clear hlx hlf r1
    go_enter Tryd.func24, Tryd.ntmps24
    go_wp2_with (go_at_call 37; refine (l1In_any _ _ _ _).mono ?_; rintro e w' ⟨rfl, rfl⟩)
    go_ret
    exact ⟨ret_bool HN.out.symm, bl_alloc (Below.refl _ _) _⟩
end Go.Proofs.YtmkgicfgcoeilaaDoor
/- toStringS, walked: a new row that holds the same strings. Conditions: at most 1048576 of them. -/
namespace Go.Proofs.YtmkgicfgcoeilaaDoor
open Go.RowKit
theorem str_info : (Tryd.prog.info? 9).map (fun i => (i.zero, i.size, i.bytes)) = some (some (.string ByteArray.empty), 1, 16) := by kernel_rfl
end Go.Proofs.YtmkgicfgcoeilaaDoor
/- toFiber and toFiberS, walked: a new row that holds the same fibers. Conditions: at most 1048576 of them. -/
namespace Go.Proofs.YtmkgicfgcoeilaaDoor
open Go.RowKit
theorem fib_info : (Tryd.prog.info? 39).map (fun i => (i.zero, i.size, i.bytes)) = some (some (.agg #[.int .i64 0, .int .i64 0, .int .i64 0, .int .i64 0]), 4, 32) := by kernel_rfl
end Go.Proofs.YtmkgicfgcoeilaaDoor
/- toNetwork, walked: a network in new memory. Conditions: at most 1048576 names and fibers. -/
namespace Go.Proofs.YtmkgicfgcoeilaaDoor
open Go.RowKit
/-- A network of the call's own. -/
def NetOwn (w : World) (base : Nat) (A : Option Addr) (n c : Nat) (A' : Option Addr) (m d : Nat) (xs : List ByteArray) (fs : List Fib) : Prop :=
  n ≤ c ∧ c ≤ maxLen ∧ m ≤ d ∧ d ≤ maxLen ∧ xs.length = n ∧ fs.length = m ∧ Owns elStr w base 9 (.slice A n c) xs ∧ Owns elFib w base 39 (.slice A' m d) fs
section
variable {w w' : World} {base n c m d : Nat} {A A' : Option Addr} {xs : List ByteArray} {fs : List Fib}
theorem NetOwn.below (h : NetOwn w base A n c A' m d xs fs) (hb : Below w.heap.size w w') : NetOwn w' base A n c A' m d xs fs :=
  let ⟨a, b, c, d, e, f, g, i⟩ := h; ⟨a, b, c, d, e, f, g.below hb, i.below hb⟩
theorem NetOwn.from_ {base' : Nat} (h : NetOwn w base A n c A' m d xs fs) (hb : base' ≤ base) : NetOwn w base' A n c A' m d xs fs :=
  let ⟨a, b, c, d, e, f, g, i⟩ := h; ⟨a, b, c, d, e, f, g.base hb, i.base hb⟩
theorem NetOwn.strs (h : NetOwn w base A n c A' m d xs fs) : Sees elStr w w.heap.size A n xs := by
  obtain ⟨_, _, _, _, e, _, g, _⟩ := h
  obtain ⟨A1, c1, hv, _, _, hs⟩ := g.form
  injection hv with h1 h2 h3; subst h1; rw [e] at hs; exact hs
theorem NetOwn.fibs (h : NetOwn w base A n c A' m d xs fs) : Sees elFib w w.heap.size A' m fs := by
  obtain ⟨_, _, _, _, _, f, _, i⟩ := h
  obtain ⟨A1, c1, hv, _, _, hs⟩ := i.form
  injection hv with h1 h2 h3; subst h1; rw [f] at hs; exact hs
end
end Go.Proofs.YtmkgicfgcoeilaaDoor
/- A network in memory, under one word; its two looks under that word. Conditions: none. -/
namespace Go.Proofs.YtmkgicfgcoeilaaDoor
open Go.RowKit
/-- The value is a network that shows the names xs and the fibers fs. -/
def NetIs (w : World) (A : Option Addr) (n c : Nat) (A' : Option Addr) (m d : Nat) (xs : List ByteArray) (fs : List Fib) : Prop :=
  (n ≤ c ∧ n ≤ 1048576) ∧ (m ≤ d ∧ m ≤ 1048576) ∧ Sees elStr w w.heap.size A n xs ∧ Sees elFib w w.heap.size A' m fs ∧ ∀ x ∈ xs, x.size ≤ maxLen
section
variable {w w' : World} {n c m d : Nat} {A A' : Option Addr} {xs : List ByteArray} {fs : List Fib}
theorem NetIs.grow (h : NetIs w A n c A' m d xs fs) (hb : Below w.heap.size w w') : NetIs w' A n c A' m d xs fs :=
  ⟨h.1, h.2.1, (h.2.2.1.grow hb).more hb.size, (h.2.2.2.1.grow hb).more hb.size, h.2.2.2.2⟩
theorem NetIs.strs (h : NetIs w A n c A' m d xs fs) : Sees elStr w w.heap.size A n xs := h.2.2.1
theorem NetIs.fibs (h : NetIs w A n c A' m d xs fs) : Sees elFib w w.heap.size A' m fs := h.2.2.2.1
theorem NetIs.nle (h : NetIs w A n c A' m d xs fs) : n ≤ 1048576 := h.1.2
theorem NetIs.mle (h : NetIs w A n c A' m d xs fs) : m ≤ 1048576 := h.2.1.2
theorem NetIs.xlen (h : NetIs w A n c A' m d xs fs) : xs.length = n := h.2.2.1.len
theorem NetIs.flen (h : NetIs w A n c A' m d xs fs) : fs.length = m := h.2.2.2.1.len
theorem NetOwn.is {base : Nat} (h : NetOwn w base A n c A' m d xs fs) (hn : n ≤ 1048576) (hm : m ≤ 1048576) (hx : ∀ x ∈ xs, x.size ≤ maxLen) : NetIs w A n c A' m d xs fs :=
  ⟨⟨h.1, hn⟩, ⟨h.2.2.1, hm⟩, h.strs, h.fibs, hx⟩
end
theorem validN {n c m d : Nat} {A A' : Option Addr} {xs : List ByteArray} {fs : List Fib} (w : World) (h : NetIs w A n c A' m d xs fs) :
    Calls Tryd.prog 30 #[.agg #[.slice A n c, .slice A' m d]] w fun e w' => e = .returned (.bool (goodB xs fs)) ∧ Below w.heap.size w w' :=
  isValid_any w h.strs h.fibs (Nat.le_refl _) h.nle h.mle h.1.1 h.2.1.1 h.2.2.2.2
theorem goodN {n c m d : Nat} {A A' : Option Addr} {xs : List ByteArray} {fs : List Fib} (w : World) (h : NetIs w A n c A' m d xs fs) :
    Calls Tryd.prog 24 #[.agg #[.slice A n c, .slice A' m d]] w fun e w' => e = .returned (.bool (goodB xs fs)) ∧ Below w.heap.size w w' :=
  l2Good_any w h.strs h.fibs (Nat.le_refl _) h.nle h.mle h.2.2.2.2
theorem goodB_bd {xs : List ByteArray} {fs : List Fib} (h : goodB xs fs = true) : 2 ≤ xs.length ∧ xs.length ≤ 8 ∧ fs.length ≤ 14 := by
  unfold goodB at h; simp at h; omega
theorem goodB_fibB {xs : List ByteArray} {fs : List Fib} (h : goodB xs fs = true) {f : Fib} (hf : f ∈ fs) : fibB xs.length f = true := by
  obtain ⟨k, hk, e⟩ := List.mem_iff_getElem.1 hf
  unfold goodB at h
  rw [Bool.and_eq_true] at h
  have := allB_iff.1 h.2 k hk
  unfold fibAt at this
  rw [Bool.and_eq_true, getD_of (x := f) (by rw [List.getElem?_eq_getElem hk, e])] at this
  exact this.1
end Go.Proofs.YtmkgicfgcoeilaaDoor
/- A network's text and how it is read back, by either side, in plain Lean. Conditions: as each states. -/
namespace Go.Proofs.YtmkgicfgcoeilaaDoor
open Go.RowKit
def wN : ByteArray := ⟨#[110, 111, 100, 101, 115]⟩
def wF : ByteArray := ⟨#[102, 105, 98, 101, 114]⟩
def wR : ByteArray := ⟨#[114, 105, 115, 107]⟩
def nmB (xs : List ByteArray) (i : Int) : ByteArray := xs.getD i.toNat ⟨#[]⟩
/-- The words of a fiber's line. -/
def fibW (xs : List ByteArray) (f : Fib) : List ByteArray := [wF, nmB xs f.a, nmB xs f.b, numS f.len] ++ if 0 < f.risk then [wR, numS f.risk] else []
def joinB (c : UInt8) (ws : List ByteArray) : ByteArray := ⟨(Lib.join (byts ws) [c]).toArray⟩
theorem joinB_list (c : UInt8) (ws : List ByteArray) : (joinB c ws).data.toList = Lib.join (byts ws) [c] := by unfold joinB; simp
/-- The lines, the empty one behind the last sign included. -/
def linesL (xs : List ByteArray) (fs : List Fib) : List ByteArray := joinB 32 (wN :: xs) :: fs.map fun f => joinB 32 (fibW xs f)
def netS (xs : List ByteArray) (fs : List Fib) : ByteArray := joinB 10 (linesL xs fs ++ [⟨#[]⟩])
/-! ### What stands in names and numbers -/
def cleanB (x : ByteArray) : Prop := ¬ (32 : UInt8) ∈ x.data.toList ∧ ¬ (10 : UInt8) ∈ x.data.toList
theorem clean_num (n : Int) : cleanB (numS n) := by
  unfold cleanB
  rw [numS_list]
  by_cases hn : n < 0
  · rw [itoa_neg_ hn]
    constructor
    · intro h
      rcases List.mem_cons.1 h with e | h
      · exact absurd e (by decide)
      · exact absurd (dec_dig h).1 (by decide)
    · intro h
      rcases List.mem_cons.1 h with e | h
      · exact absurd e (by decide)
      · exact absurd (dec_dig h).1 (by decide)
  · rw [itoa_pos_ hn]
    exact ⟨fun h => absurd (dec_dig h).1 (by decide), fun h => absurd (dec_dig h).1 (by decide)⟩
theorem clean_name {x : ByteArray} (h : nameB x.data.toList = true) : cleanB x := by
  have key : ∀ u : UInt8, (u = 32 ∨ u = 10) → ¬ u ∈ x.data.toList := fun u hu hm => by
    unfold nameB at h
    rw [Bool.and_eq_true] at h
    obtain ⟨k, hk⟩ := List.getElem?_of_mem hm
    have h2 := (okTo_all.2 h.2) k u (List.getElem?_eq_some_iff.1 hk).1 hk
    unfold okAt letB digB at h2
    rcases hu with rfl | rfl
    · simp at h2
    · simp at h2
  exact ⟨key 32 (.inl rfl), key 10 (.inr rfl)⟩
section
variable {xs : List ByteArray} {fs : List Fib}
theorem good_name (hg : goodB xs fs = true) {x : ByteArray} (hx : x ∈ xs) : nameB x.data.toList = true := by
  obtain ⟨k, hk⟩ := List.getElem?_of_mem hx
  have hkl := (List.getElem?_eq_some_iff.1 hk).1
  unfold goodB at hg
  rw [Bool.and_eq_true, Bool.and_eq_true] at hg
  have h := (allB_iff.1 hg.1.2) k hkl
  unfold nameAt at h
  rw [Bool.and_eq_true, getD_of hk] at h
  exact h.1
theorem good_first (hg : goodB xs fs = true) {k : Nat} {x : ByteArray} (hk : xs[k]? = some x) : findI xs x = (k : Int) := by
  have hkl := (List.getElem?_eq_some_iff.1 hk).1
  unfold goodB at hg
  rw [Bool.and_eq_true, Bool.and_eq_true] at hg
  have h := (allB_iff.1 hg.1.2) k hkl
  unfold nameAt at h
  rw [Bool.and_eq_true, getD_of hk, Bool.not_eq_true'] at h
  refine findI_at (fun j hj hy => ?_) hk
  have : hasB (xs.take k) x = true := hasB_iff.2 (List.mem_of_getElem? (by rw [List.getElem?_take_of_lt hj]; exact hy))
  rw [h.2] at this
  cases this
theorem good_fib (hg : goodB xs fs = true) {f : Fib} (hf : f ∈ fs) : ∃ x y, xs[f.a.toNat]? = some x ∧ xs[f.b.toNat]? = some y ∧ nmB xs f.a = x ∧ nmB xs f.b = y ∧ 0 ≤ f.a ∧ 0 ≤ f.b ∧ (-999999 ≤ f.len ∧ f.len ≤ 999999) ∧ 0 ≤ f.risk ∧ f.risk ≤ 9 := by
  have h := goodB_fibB hg hf
  unfold fibB at h
  rw [decide_eq_true_eq] at h
  obtain ⟨x, hx⟩ := get_of (k := f.a.toNat) (l := xs) rfl (by omega)
  obtain ⟨y, hy⟩ := get_of (k := f.b.toNat) (l := xs) rfl (by omega)
  exact ⟨x, y, hx, hy, getD_of hx, getD_of hy, by omega, by omega, by omega, by omega, by omega⟩
theorem clean_fib (hg : goodB xs fs = true) {f : Fib} (hf : f ∈ fs) : ∀ w ∈ fibW xs f, cleanB w := by
  obtain ⟨x, y, hx, hy, e1, e2, _⟩ := good_fib hg hf
  have cx := clean_name (good_name hg (List.mem_of_getElem? hx))
  have cy := clean_name (good_name hg (List.mem_of_getElem? hy))
  intro w hw
  unfold fibW at hw
  rw [e1, e2] at hw
  rcases List.mem_append.1 hw with hw | hw
  · simp at hw
    rcases hw with rfl | rfl | rfl | rfl
    · exact ⟨by decide, by decide⟩
    · exact cx
    · exact cy
    · exact clean_num _
  · split at hw
    · simp at hw
      rcases hw with rfl | rfl
      · exact ⟨by decide, by decide⟩
      · exact clean_num _
    · cases hw
theorem clean_head (hg : goodB xs fs = true) : ∀ w ∈ wN :: xs, cleanB w := by
  intro w hw
  rcases List.mem_cons.1 hw with rfl | hw
  · exact ⟨by decide, by decide⟩
  · exact clean_name (good_name hg hw)
theorem spl_words {ws : List ByteArray} (h0 : ws ≠ []) (h : ∀ w ∈ ws, cleanB w) : splA (joinB 32 ws) 32 = ws :=
  splA_is (c := 32) h0 (fun x hx => (h x hx).1) (joinB_list 32 ws).symm
theorem join_mem {c u : UInt8} : ∀ {ps : List (List UInt8)}, u ∈ Lib.join ps [c] → u = c ∨ ∃ p ∈ ps, u ∈ p := by
  intro ps
  induction ps with
  | nil => intro h; exact absurd h (by simp [Lib.join])
  | cons p r ih =>
    intro h
    rw [Lib.join_cons] at h
    rcases List.mem_append.1 h with h | h
    · exact .inr ⟨p, List.mem_cons_self, h⟩
    · cases r with
      | nil => rw [joinTail_nil] at h; cases h
      | cons q t =>
        rw [joinTail_cons] at h
        rcases List.mem_cons.1 h with h | h
        · exact .inl h
        · rcases ih h with h | ⟨p2, hp2, h⟩
          · exact .inl h
          · exact .inr ⟨p2, List.mem_cons_of_mem _ hp2, h⟩
theorem line_clean {ws : List ByteArray} (h : ∀ w ∈ ws, cleanB w) : ¬ (10 : UInt8) ∈ (joinB 32 ws).data.toList := by
  rw [joinB_list]
  intro hm
  rcases join_mem hm with e | ⟨p, hp, hu⟩
  · exact absurd e (by decide)
  · obtain ⟨w, hw, rfl⟩ := List.mem_map.1 hp
    exact (h w hw).2 hu
theorem lines_clean (hg : goodB xs fs = true) : ∀ l ∈ linesL xs fs, ¬ (10 : UInt8) ∈ l.data.toList := by
  intro l hl
  rcases List.mem_cons.1 hl with rfl | hl
  · exact line_clean (clean_head hg)
  · obtain ⟨f, hf, rfl⟩ := List.mem_map.1 hl
    exact line_clean (clean_fib hg hf)
theorem spl_net (hg : goodB xs fs = true) : splA (netS xs fs) 10 = linesL xs fs ++ [⟨#[]⟩] :=
  splA_is (c := 10) (by simp) (fun l hl => by
    rcases List.mem_append.1 hl with hl | hl
    · exact lines_clean hg l hl
    · rw [List.mem_singleton.1 hl]; decide) (joinB_list 10 _).symm
theorem netS_list (xs : List ByteArray) (fs : List Fib) : (netS xs fs).data.toList = Lib.join (byts (linesL xs fs)) [10] ++ [10] := by
  unfold netS
  rw [joinB_list]
  have e : byts (linesL xs fs ++ [⟨#[]⟩]) = byts (linesL xs fs) ++ [[]] := by simp [byts]
  rw [e, join_new [10] (by simp [byts, linesL])]
  simp
theorem net_last (xs : List ByteArray) (fs : List Fib) : (netS xs fs).data.toList.getLast? = some 10 ∧ 0 < (netS xs fs).size := by
  have h := netS_list xs fs
  refine ⟨by rw [h]; simp, ?_⟩
  have := congrArg List.length h
  simp at this
  omega
/-- The text without its last sign. -/
def butL (s : ByteArray) : ByteArray := s.extract 0 (s.size - 1)
theorem butL_list (s : ByteArray) : (butL s).data.toList = s.data.toList.take (s.size - 1) := by
  unfold butL
  rw [ByteArray.data_extract, Array.toList_extract]
  simp
theorem spl_but (hg : goodB xs fs = true) : splA (butL (netS xs fs)) 10 = linesL xs fs := by
  refine splA_is (c := 10) (by simp [linesL]) (lines_clean hg) ?_
  rw [butL_list]
  have h := netS_list xs fs
  have hl := congrArg List.length h
  simp at hl
  rw [h, List.take_append_of_le_length (by omega), List.take_of_length_le (by omega)]
/-! ### A fiber's line read -/
/-- By the program. -/
def rdI (xs : List ByteArray) (ws : List ByteArray) : Option Fib :=
  if ws.length = 4 ∨ ws.length = 6 then
    if 0 ≤ findI xs (ws.getD 1 ⟨#[]⟩) ∧ 0 ≤ findI xs (ws.getD 2 ⟨#[]⟩) ∧ rdK (ws.getD 3 ⟨#[]⟩) = true ∧ (ws.length = 6 → rdK (ws.getD 5 ⟨#[]⟩) = true) then
      some ⟨findI xs (ws.getD 1 ⟨#[]⟩), findI xs (ws.getD 2 ⟨#[]⟩), rdV (ws.getD 3 ⟨#[]⟩), if ws.length = 6 then rdV (ws.getD 5 ⟨#[]⟩) else 0⟩
    else none
  else none
/-- By the reference. -/
def rdS (xs : List ByteArray) (ws : List ByteArray) : Option Fib :=
  if (ws.length = 4 ∨ ws.length = 6) ∧ ws.getD 0 ⟨#[]⟩ = wF then
    if rdK (ws.getD 3 ⟨#[]⟩) = true ∧ (ws.length = 6 → rdK (ws.getD 5 ⟨#[]⟩) = true ∧ ws.getD 4 ⟨#[]⟩ = wR) then
      some ⟨findI xs (ws.getD 1 ⟨#[]⟩), findI xs (ws.getD 2 ⟨#[]⟩), rdV (ws.getD 3 ⟨#[]⟩), if ws.length = 6 then rdV (ws.getD 5 ⟨#[]⟩) else 0⟩
    else none
  else none
theorem rdVK_num {n : Int} (h : -999999 ≤ n ∧ n ≤ 999999) : rdV (numS n) = n ∧ rdK (numS n) = true := rdVK_some (rdN_iff.2 ⟨h, rfl⟩)
theorem rd_back (hg : goodB xs fs = true) {f : Fib} (hf : f ∈ fs) : rdI xs (fibW xs f) = some f ∧ rdS xs (fibW xs f) = some f := by
  obtain ⟨x, y, hx, hy, e1, e2, h1, h2, h3, h4, h5⟩ := good_fib hg hf
  have fx := good_first hg hx
  have fy := good_first hg hy
  obtain ⟨v1, k1⟩ := rdVK_num h3
  obtain ⟨v2, k2⟩ := rdVK_num (n := f.risk) (by omega)
  have ea : ((f.a.toNat : Nat) : Int) = f.a := by omega
  have eb : ((f.b.toNat : Nat) : Int) = f.b := by omega
  rw [ea] at fx
  rw [eb] at fy
  by_cases hr : 0 < f.risk
  · have hw : fibW xs f = [wF, x, y, numS f.len, wR, numS f.risk] := by unfold fibW; rw [if_pos hr, e1, e2]; rfl
    rw [hw]
    constructor
    · unfold rdI
      rw [if_pos (show [wF, x, y, numS f.len, wR, numS f.risk].length = 4 ∨ [wF, x, y, numS f.len, wR, numS f.risk].length = 6 from Or.inr rfl), if_pos ⟨show 0 ≤ findI xs x by rw [fx]; exact h1, show 0 ≤ findI xs y by rw [fy]; exact h2, k1, fun _ => k2⟩]
      show some (⟨findI xs x, findI xs y, rdV (numS f.len), if 6 = 6 then rdV (numS f.risk) else 0⟩ : Fib) = some f
      rw [fx, fy, v1, v2, if_pos rfl]
    · unfold rdS
      rw [if_pos ⟨Or.inr (rfl : [wF, x, y, numS f.len, wR, numS f.risk].length = 6), rfl⟩, if_pos ⟨k1, fun _ => ⟨k2, rfl⟩⟩]
      show some (⟨findI xs x, findI xs y, rdV (numS f.len), if 6 = 6 then rdV (numS f.risk) else 0⟩ : Fib) = some f
      rw [fx, fy, v1, v2, if_pos rfl]
  · have hw : fibW xs f = [wF, x, y, numS f.len] := by unfold fibW; rw [if_neg hr, e1, e2]; rfl
    have hr0 : f.risk = 0 := by omega
    rw [hw]
    constructor
    · unfold rdI
      rw [if_pos (show [wF, x, y, numS f.len].length = 4 ∨ [wF, x, y, numS f.len].length = 6 from Or.inl rfl), if_pos ⟨show 0 ≤ findI xs x by rw [fx]; exact h1, show 0 ≤ findI xs y by rw [fy]; exact h2, k1, fun h => by simp at h⟩]
      show some (⟨findI xs x, findI xs y, rdV (numS f.len), if 4 = 6 then _ else 0⟩ : Fib) = some f
      rw [fx, fy, v1, if_neg (by decide), ← hr0]
    · unfold rdS
      rw [if_pos ⟨Or.inl (rfl : [wF, x, y, numS f.len].length = 4), rfl⟩, if_pos ⟨k1, fun h => by simp at h⟩]
      show some (⟨findI xs x, findI xs y, rdV (numS f.len), if 4 = 6 then _ else 0⟩ : Fib) = some f
      rw [fx, fy, v1, if_neg (by decide), ← hr0]
/-! ### A network's text read -/
/-- The fibers of the lines, by the program. -/
def rdLI (xs : List ByteArray) : List ByteArray → Option (List Fib)
  | [] => some []
  | l :: r => match rdI xs (splA l 32) with
    | none => none
    | some f => (rdLI xs r).map fun fs => f :: fs
/-- Does the line begin as a fiber's? -/
def isF (l : ByteArray) : Bool := decide (5 < l.size) && decide (l.extract 0 5 = wF)
def rdLS (xs : List ByteArray) : List ByteArray → Option (List Fib)
  | [] => some []
  | l :: r => if isF l then match rdS xs (splA l 32) with
    | none => none
    | some f => (rdLS xs r).map fun fs => f :: fs
    else some []
def nodesO (L : List ByteArray) : List ByteArray := (splA (L.headD ⟨#[]⟩) 32).drop 1
def pnI (s : ByteArray) : Option (List ByteArray × List Fib) :=
  if s.size ≤ 4000 ∧ s.data.toList.getLast? = some 10 then
    match rdLI (nodesO (splA (butL s) 10)) ((splA (butL s) 10).drop 1) with
    | none => none
    | some fs => if goodB (nodesO (splA (butL s) 10)) fs = true ∧ netS (nodesO (splA (butL s) 10)) fs = s then some (nodesO (splA (butL s) 10), fs) else none
  else none
def pnS (s : ByteArray) : Option (List ByteArray × List Fib) :=
  if s.size ≤ 4000 then
    match rdLS (nodesO (splA s 10)) ((splA s 10).drop 1) with
    | none => none
    | some fs => if goodB (nodesO (splA s 10)) fs = true ∧ netS (nodesO (splA s 10)) fs = s then some (nodesO (splA s 10), fs) else none
  else none
theorem nodes_of (hg : goodB xs fs = true) (r : List ByteArray) : nodesO (joinB 32 (wN :: xs) :: r) = xs := by
  unfold nodesO
  rw [List.headD_cons, spl_words (by simp) (clean_head hg)]
  rfl
theorem rdLI_back (hg : goodB xs fs = true) : ∀ gs : List Fib, (∀ f ∈ gs, f ∈ fs) → rdLI xs (gs.map fun f => joinB 32 (fibW xs f)) = some gs := by
  intro gs
  induction gs with
  | nil => intro _; rfl
  | cons f gs ih =>
    intro h
    have hf := h f List.mem_cons_self
    rw [List.map_cons, rdLI, spl_words (by simp [fibW]) (clean_fib hg hf), (rd_back hg hf).1, ih fun g hg2 => h g (List.mem_cons_of_mem _ hg2)]
    rfl
theorem isF_line (_hg : goodB xs fs = true) {f : Fib} (_hf : f ∈ fs) : isF (joinB 32 (fibW xs f)) = true := by
  have e : (joinB 32 (fibW xs f)).data.toList = wF.data.toList ++ Lib.joinTail [32] (byts (nmB xs f.a :: ([nmB xs f.b, numS f.len] ++ if 0 < f.risk then [wR, numS f.risk] else []))) := by
    rw [joinB_list]
    have e2 : byts (fibW xs f) = wF.data.toList :: byts (nmB xs f.a :: ([nmB xs f.b, numS f.len] ++ if 0 < f.risk then [wR, numS f.risk] else [])) := rfl
    rw [e2, Lib.join_cons]
  have e3 : byts (nmB xs f.a :: ([nmB xs f.b, numS f.len] ++ if 0 < f.risk then [wR, numS f.risk] else [])) = (nmB xs f.a).data.toList :: byts ([nmB xs f.b, numS f.len] ++ if 0 < f.risk then [wR, numS f.risk] else []) := rfl
  rw [e3, joinTail_cons] at e
  unfold isF
  rw [Bool.and_eq_true, decide_eq_true_eq, decide_eq_true_eq]
  constructor
  · have := congrArg List.length e
    simp [wF] at this
    omega
  · apply ba_eq
    rw [ByteArray.data_extract, Array.toList_extract, e]
    simp [wF]
theorem isF_nil : isF ⟨#[]⟩ = false := by unfold isF; rw [decide_eq_false (by decide)]; rfl
theorem rdLS_back (hg : goodB xs fs = true) : ∀ gs : List Fib, (∀ f ∈ gs, f ∈ fs) → rdLS xs ((gs.map fun f => joinB 32 (fibW xs f)) ++ [⟨#[]⟩]) = some gs := by
  intro gs
  induction gs with
  | nil => intro _; show rdLS xs [⟨#[]⟩] = some []; rw [rdLS, isF_nil]; rfl
  | cons f gs ih =>
    intro h
    have hf := h f List.mem_cons_self
    rw [List.map_cons, List.cons_append, rdLS, if_pos (isF_line hg hf), spl_words (by simp [fibW]) (clean_fib hg hf), (rd_back hg hf).2, ih fun g hg2 => h g (List.mem_cons_of_mem _ hg2)]
    rfl
end
theorem pnI_iff {s : ByteArray} {p : List ByteArray × List Fib} : pnI s = some p ↔ s.size ≤ 4000 ∧ goodB p.1 p.2 = true ∧ netS p.1 p.2 = s := by
  constructor
  · intro h
    unfold pnI at h
    split at h
    · rename_i hs
      split at h
      · cases h
      · rename_i fs hfs
        split at h
        · rename_i h2
          injection h with h
          rw [← h]
          dsimp only
          exact ⟨hs.1, h2⟩
        · cases h
    · cases h
  · rintro ⟨h1, h2, h3⟩
    obtain ⟨xs, fs⟩ := p
    simp only at h2 h3
    have hl := net_last xs fs
    rw [h3] at hl
    have hb : splA (butL s) 10 = joinB 32 (wN :: xs) :: fs.map fun f => joinB 32 (fibW xs f) := by rw [← h3]; exact spl_but h2
    unfold pnI
    rw [if_pos ⟨h1, hl.1⟩, hb, nodes_of h2, List.drop_succ_cons, List.drop_zero, rdLI_back h2 fs (fun _ h => h)]
    simp only
    rw [if_pos ⟨h2, h3⟩]
theorem pnS_iff {s : ByteArray} {p : List ByteArray × List Fib} : pnS s = some p ↔ s.size ≤ 4000 ∧ goodB p.1 p.2 = true ∧ netS p.1 p.2 = s := by
  constructor
  · intro h
    unfold pnS at h
    split at h
    · rename_i hs
      split at h
      · cases h
      · rename_i fs hfs
        split at h
        · rename_i h2
          injection h with h
          rw [← h]
          dsimp only
          exact ⟨hs, h2⟩
        · cases h
    · cases h
  · rintro ⟨h1, h2, h3⟩
    obtain ⟨xs, fs⟩ := p
    simp only at h2 h3
    have hb : splA s 10 = joinB 32 (wN :: xs) :: ((fs.map fun f => joinB 32 (fibW xs f)) ++ [⟨#[]⟩]) := by rw [← h3]; exact spl_net h2
    unfold pnS
    rw [if_pos h1, hb, nodes_of h2, List.drop_succ_cons, List.drop_zero, rdLS_back h2 fs (fun _ h => h)]
    simp only
    rw [if_pos ⟨h2, h3⟩]
theorem pn_one (s : ByteArray) : pnI s = pnS s := by
  cases hI : pnI s with
  | none =>
    cases hS : pnS s with
    | none => rfl
    | some p => rw [pnI_iff.2 (pnS_iff.1 hS)] at hI; cases hI
  | some p => exact (pnS_iff.2 (pnI_iff.1 hI)).symm
end Go.Proofs.YtmkgicfgcoeilaaDoor
/- A network's text, laid piece by piece, in plain Lean. Conditions: as each states. -/
namespace Go.Proofs.YtmkgicfgcoeilaaDoor
open Go.RowKit
theorem joinTail_end (c : UInt8) : ∀ ps : List (List UInt8), Lib.joinTail [c] ps ++ [c] = c :: ps.flatMap fun p => p ++ [c] := by
  intro ps
  induction ps with
  | nil => rfl
  | cons p ps ih =>
    have e : Lib.joinTail [c] (p :: ps) = c :: (p ++ Lib.joinTail [c] ps) := by simp [Lib.joinTail]
    rw [e]
    show c :: ((p ++ Lib.joinTail [c] ps) ++ [c]) = _
    rw [List.flatMap_cons, List.append_assoc, ih]
    simp
theorem joinTail_snoc (c : UInt8) : ∀ (ps : List (List UInt8)) (p : List UInt8), Lib.joinTail [c] (ps ++ [p]) = Lib.joinTail [c] ps ++ c :: p := by
  intro ps
  induction ps with
  | nil => intro p; simp [Lib.joinTail]
  | cons q ps ih =>
    intro p
    have e : ∀ r, Lib.joinTail [c] (q :: r) = c :: (q ++ Lib.joinTail [c] r) := fun r => by simp [Lib.joinTail]
    rw [List.cons_append, e, e, ih]
    simp
section
variable {xs : List ByteArray} {fs : List Fib}
/-- A fiber's line with its sign. -/
def lnL (xs : List ByteArray) (f : Fib) : List UInt8 := (joinB 32 (fibW xs f)).data.toList ++ [10]
/-- The first line with k names. -/
def hdL (xs : List ByteArray) (k : Nat) : List UInt8 := wN.data.toList ++ Lib.joinTail [32] (byts (xs.take k))
def ntL (xs : List ByteArray) (fs : List Fib) (k : Nat) : List UInt8 := hdL xs xs.length ++ [10] ++ (fs.take k).flatMap (lnL xs)
theorem hd_zero : hdL xs 0 = wN.data.toList := by unfold hdL; simp [byts, Lib.joinTail]
theorem hd_succ {k : Nat} {x : ByteArray} (h : xs[k]? = some x) : hdL xs (k + 1) = hdL xs k ++ 32 :: x.data.toList := by
  unfold hdL
  rw [List.take_add_one, h]
  have e : byts (xs.take k ++ (some x).toList) = byts (xs.take k) ++ [x.data.toList] := by simp [byts]
  rw [e, joinTail_snoc, List.append_assoc]
/-- As the program lays it. -/
theorem hd_join (h : xs ≠ []) : hdL xs xs.length = wN.data.toList ++ 32 :: Lib.join (byts xs) [32] := by
  unfold hdL
  rw [List.take_length]
  cases xs with
  | nil => exact absurd rfl h
  | cons x r =>
    have e : byts (x :: r) = x.data.toList :: byts r := rfl
    rw [e, joinTail_cons]
theorem nt_zero : ntL xs fs 0 = hdL xs xs.length ++ [10] := by unfold ntL; simp
theorem nt_succ {k : Nat} {f : Fib} (h : fs[k]? = some f) : ntL xs fs (k + 1) = ntL xs fs k ++ lnL xs f := by
  unfold ntL
  rw [List.take_add_one, h, List.flatMap_append, ← List.append_assoc]
  simp
theorem nt_all : ntL xs fs fs.length = (netS xs fs).data.toList := by
  rw [netS_list]
  unfold ntL linesL
  have e : byts (joinB 32 (wN :: xs) :: fs.map fun f => joinB 32 (fibW xs f)) = (joinB 32 (wN :: xs)).data.toList :: byts (fs.map fun f => joinB 32 (fibW xs f)) := rfl
  have e0 : byts (wN :: xs) = wN.data.toList :: byts xs := rfl
  have hJ : ∀ (X : List UInt8) (R : List (List UInt8)), Lib.join (X :: R) [10] ++ [10] = X ++ 10 :: R.flatMap fun p => p ++ [10] := fun X R => by rw [Lib.join_cons, List.append_assoc, joinTail_end]
  rw [e, hJ, List.take_length, joinB_list, e0, Lib.join_cons]
  unfold hdL
  rw [List.take_length]
  have e2 : (byts (fs.map fun f => joinB 32 (fibW xs f))).flatMap (fun p => p ++ [10]) = fs.flatMap (lnL xs) := by
    unfold byts lnL
    rw [List.map_map, List.flatMap_map]
    rfl
  rw [e2]
  simp
/-- A line in pieces. -/
theorem ln_eq (f : Fib) : lnL xs f = [102, 105, 98, 101, 114, 32] ++ (nmB xs f.a).data.toList ++ [32] ++ (nmB xs f.b).data.toList ++ [32] ++ Lib.itoa f.len ++ (if 0 < f.risk then [32, 114, 105, 115, 107, 32] ++ Lib.itoa f.risk else []) ++ [10] := by
  unfold lnL
  rw [joinB_list]
  unfold fibW
  by_cases h : 0 < f.risk
  · rw [if_pos h, if_pos h]
    simp [byts, Lib.join_cons, Lib.joinTail, numS_list, wF, wR]
  · rw [if_neg h, if_neg h]
    simp [byts, Lib.join_cons, Lib.joinTail, numS_list, wF]
theorem name_size {x : ByteArray} (h : nameB x.data.toList = true) : x.size ≤ 8 := by
  unfold nameB at h
  rw [Bool.and_eq_true, decide_eq_true_eq] at h
  simpa using h.1.2
theorem joinTail_len (c : UInt8) : ∀ ws : List ByteArray, (∀ x ∈ ws, x.size ≤ 8) → (Lib.joinTail [c] (byts ws)).length ≤ 9 * ws.length := by
  intro ws
  induction ws with
  | nil => intro _; simp [byts, Lib.joinTail]
  | cons x r ih =>
    intro h
    have h1 := h x List.mem_cons_self
    have h2 := ih fun y hy => h y (List.mem_cons_of_mem _ hy)
    have e : Lib.joinTail [c] (byts (x :: r)) = c :: (x.data.toList ++ Lib.joinTail [c] (byts r)) := by simp [byts, Lib.joinTail]
    have h3 : x.data.toList.length = x.size := by simp
    rw [e, List.length_cons, List.length_append, List.length_cons, h3]
    omega
theorem join_len (c : UInt8) {ws : List ByteArray} (h : ∀ x ∈ ws, x.size ≤ 8) : (Lib.join (byts ws) [c]).length ≤ 9 * ws.length := by
  cases ws with
  | nil => simp [byts, Lib.join]
  | cons x r =>
    have h1 := h x List.mem_cons_self
    have h2 := joinTail_len c r fun y hy => h y (List.mem_cons_of_mem _ hy)
    have e : byts (x :: r) = x.data.toList :: byts r := rfl
    have h3 : x.data.toList.length = x.size := by simp
    rw [e, Lib.join_cons, List.length_append, List.length_cons, h3]
    omega
/-- The text, or none. -/
def fnS (xs : List ByteArray) (fs : List Fib) : ByteArray := if goodB xs fs then netS xs fs else ⟨#[]⟩
end
end Go.Proofs.YtmkgicfgcoeilaaDoor
/- The reference's text of a number, walked. Conditions: below 10^10. -/
namespace Go.Proofs.YtmkgicfgcoeilaaDoor
open Go.RowKit
/-- One digit. -/
def dgS (d : Nat) : ByteArray := ⟨#[UInt8.ofNat (48 + d)]⟩
theorem numS_one {n : Nat} (h : n < 10) : numS (n : Int) = dgS n := by
  unfold numS
  rw [itoa_pos_ (by omega), Int.natAbs_natCast, dec_one h]
  rfl
theorem numS_more {n : Nat} (h : ¬ n < 10) : numS (n : Int) = numS ((n / 10 : Nat) : Int) ++ dgS (n % 10) := by
  apply ba_eq
  rw [numS_list, Joins.data_append, numS_list, itoa_pos_ (by omega), itoa_pos_ (by omega), Int.natAbs_natCast, Int.natAbs_natCast, dec_more h]
  rfl
theorem numS_neg {n : Nat} (h : 0 < n) : numS (-(n : Int)) = ⟨#[45]⟩ ++ numS (n : Int) := by
  apply ba_eq
  rw [Joins.data_append, numS_list, numS_list, itoa_neg_ (n := -(n : Int)) (by omega), itoa_pos_ (n := (n : Int)) (by omega), Int.natAbs_neg]
  rfl
theorem numS_le {n : Nat} (h : n < 10 ^ 11) : (numS (n : Int)).size ≤ 11 := by
  have h1 := dec_len 10 n h
  have : (numS (n : Int)).size = (Lib.itoa (n : Int)).length := by unfold numS; simp [ByteArray.size]
  rw [this, itoa_pos_ (by omega), Int.natAbs_natCast]; exact h1
theorem dgS_size (d : Nat) : (dgS d).size = 1 := rfl
set_option maxRecDepth 100000 in
theorem dig_slice (d : Nat) (h : d < 10) (w : World) : (Instr.slice 9 (.string ⟨#[48, 49, 50, 51, 52, 53, 54, 55, 56, 57]⟩) (some (.int .i64 (d : Int))) (some (.int .i64 ((d : Int) + 1))) none).run Tryd.prog w = .ok (.string (dgS d)) w := by
  match d, h with
  | 0, _ => rfl
  | 1, _ => rfl
  | 2, _ => rfl
  | 3, _ => rfl
  | 4, _ => rfl
  | 5, _ => rfl
  | 6, _ => rfl
  | 7, _ => rfl
  | 8, _ => rfl
  | 9, _ => rfl
  | d + 10, h => omega
set_option maxHeartbeats 1000000 in
set_option maxRecDepth 100000 in
theorem l1NumP_any : ∀ (k n : Nat) (w : World), n < 10 ^ (k + 1) → k ≤ 9 →
    Calls Tryd.prog 25 #[.int .i64 (n : Int)] w fun e w' => e = .returned (.string (numS (n : Int))) ∧ Below w.heap.size w w' := by
  intro k
  induction k with
  | zero =>
    intro n w hn _
    have hn2 : n < 10 := by simpa using hn
    have HN := hid (numS_one hn2)
    have hsl := fun w => dig_slice n hn2 w
    have i1 : (n : Int) < 10 := by omega
    have i2 : ¬ (n : Int) < 0 := by omega
    clear hn
    go_enter Tryd.func25, Tryd.ntmps25
    go_wp2_with fail
    go_ret
    exact ⟨by rw [HN.out]; rfl, Below.refl _ _⟩
  | succ k ih =>
    intro n w hn hk
    by_cases h10 : n < 10
    · exact (ih n w (Nat.lt_of_lt_of_le h10 (by rw [Nat.pow_succ]; exact Nat.le_mul_of_pos_left _ (Nat.pow_pos (by decide)))) (by omega))
    · have i1 : ¬ (n : Int) < 10 := by omega
      have i2 : ¬ (n : Int) < 0 := by omega
      obtain ⟨q, hq⟩ : ∃ q, q = n / 10 := ⟨_, rfl⟩
      obtain ⟨d, hd⟩ : ∃ d, d = n % 10 := ⟨_, rfl⟩
      have HN : Hid (numS (n : Int) = numS (q : Int) ++ dgS d) := by unfold Hid; rw [hq, hd]; exact numS_more h10
      have hb : n < 10 ^ 11 := Nat.lt_of_lt_of_le hn (Nat.pow_le_pow_right (by decide) (by omega))
      have iw1 : IntKind.i64.wrap ((n : Int) / 10) = (n : Int) / 10 := IntWalk.i64_in _ (by omega)
      have e1 : (n : Int) / 10 = (q : Int) := by omega
      have e2 : (n : Int).tmod 10 = (d : Int) := by rw [Int.tmod_eq_emod_of_nonneg (by omega)]; omega
      have iw2 : IntKind.i64.wrap ((n : Int).tmod 10 + 1) = (n : Int).tmod 10 + 1 := IntWalk.i64_in _ (by omega)
      have HI : Hid (∀ w', Calls Tryd.prog 25 #[.int .i64 ((n : Int) / 10)] w' fun e w2 => e = .returned (.string (numS (q : Int))) ∧ Below w'.heap.size w' w2) := fun w' => by rw [e1]; exact ih q w' (by rw [Nat.pow_succ] at hn; omega) (by omega)
      have hsl := fun w => dig_slice d (by omega) w
      rw [← e2] at hsl
      have hs1 := numS_le (n := q) (by omega)
      have hs2 := dgS_size d
      clear ih hn e1 e2 hb hq hd
      go_enter Tryd.func25, Tryd.ntmps25
      go_wp2_with fail
      refine region_cls (by kernel_rfl) (by kernel_rfl) ?_
      repeat (first
        | ((with_reducible refine quiet_pos ?_ (fun K hK => ?_))
           · rfl
           apply Exists.intro
           refine ⟨fun w' hw' => ?_, ?_⟩
           · go_simp
             first
               | with_reducible rfl
               | go_at_call 25; with_reducible exact hw'.call (HI.out _)
               | (rw [if_neg (by omega)]; exact ⟨rfl, rfl⟩)
           simp only [Act.put, List.setIfInBounds_toArray, List.set_cons_zero, List.set_cons_succ]
           refine hK _ ?_; clear hK K)
        | ((with_reducible refine quiet_neg ?_ (fun K hK => ?_))
           · rfl
           simp only [Act.put, List.setIfInBounds_toArray, List.set_cons_zero, List.set_cons_succ]
           refine hK _ ?_; clear hK K))
      with_reducible refine wpQuiet_nil ?_
      intro wz hwz'
      go_wp2
      go_ret
      exact ⟨by rw [HN.out]; rfl, hwz'⟩
theorem l1Num_any (n : Int) (w : World) (hn : -1000000 ≤ n ∧ n ≤ 1000000) : Calls Tryd.prog 25 #[.int .i64 n] w fun e w' => e = .returned (.string (numS n)) ∧ Below w.heap.size w w' := by
  by_cases h : n < 0
  · obtain ⟨m, rfl⟩ : ∃ m : Nat, n = -(m : Int) := ⟨n.natAbs, by omega⟩
    have HI := hid (fun w' => l1NumP_any 6 m w' (by omega) (by decide))
    have HN := hid (numS_neg (n := m) (by omega))
    have hs1 := numS_le (n := m) (by omega)
    have i1 : -(m : Int) < 0 := h
    go_enter Tryd.func25, Tryd.ntmps25
    go_wp2_with fail
    refine (HI.out _).mono ?_
    rintro e w1 ⟨rfl, hb⟩
    go_wp2_with fail
    go_ret
    exact ⟨by rw [HN.out]; rfl, hb⟩
  · obtain ⟨m, rfl⟩ : ∃ m : Nat, n = (m : Int) := ⟨n.toNat, by omega⟩
    exact l1NumP_any 6 m w (by omega) (by decide)
end Go.Proofs.YtmkgicfgcoeilaaDoor
