/- Lemmas and walks that the claim rests on, laid together. Conditions: none. -/
import Derived.Test.YtjfafhehpfjofaaGreatZ0a7cb1c9072e
import Derived.Test.YtjfafhehpfjofaaGreatRows
import Derived.Test.YtjfafhehpfjofaaGreatZb31cf84453cc
import Derived.Deep.Upon
import Derived.Deep.AppendLies
/- The reference's looks at a fiber, walked. Conditions: none. -/
namespace Go.Proofs.YtjfafhehpfjofaaGreat
open Go.RowKit
theorem fibB_eq2 (n : Nat) (f : Fib) : fibB n f = (inB 0 ((n : Int) - 1) f.a && inB (f.a + 1) ((n : Int) - 1) f.b && inB 1 5000 f.len && inB 0 9 f.risk) := by
  unfold fibB inB; rw [Bool.eq_iff_iff]; simp; omega
set_option maxHeartbeats 1000000 in
set_option maxRecDepth 100000 in
theorem l2Fiber_any (f : Fib) (n : Nat) (w : World) (hn : n ≤ 1048576) :
    Calls Tryz.prog 71 #[fibV f, .int .i64 n] w fun e w' => e = .returned (.bool (fibB n f)) ∧ Below w.heap.size w w' := by
  obtain ⟨a, b, l, r⟩ := f
  rw [fibB_eq2]
  unfold fibV
  by_cases h1 : inB 0 ((n : Int) - 1) a = true
  · have h1' := h1
    unfold inB at h1'
    simp only [decide_eq_true_eq] at h1'
    obtain ⟨h2, h3⟩ := h1'
    have e1 : IntKind.i64.wrap ((n : Int) - 1) = (n : Int) - 1 := IntWalk.i64_in _ (by omega)
    have e2 : IntKind.i64.wrap (a + 1) = a + 1 := IntWalk.i64_in _ (by omega)
    cases h4 : inB (a + 1) ((n : Int) - 1) b <;> cases h5 : inB 1 5000 l <;> cases h6 : inB 0 9 r
    all_goals
      go_enter Tryz.func71, Tryz.ntmps71
      go_wp2_with (go_at_call 45; refine (l1In_any _ _ _ _).mono ?_; rintro e w' ⟨rfl, rfl⟩)
      go_ret
      exact ⟨ret_bool (by simp [*]), bl_alloc (Below.refl _ _) _⟩
  · have h1' : inB 0 ((n : Int) - 1) a = false := by simpa using h1
    clear h1
    go_enter Tryz.func71, Tryz.ntmps71
    go_wp2_with (go_at_call 45; refine (l1In_any _ _ _ _).mono ?_; rintro e w' ⟨rfl, rfl⟩)
    go_ret
    exact ⟨ret_bool (by simp [*]), bl_alloc (Below.refl _ _) _⟩
/-- A fiber whose numbers are small. -/
def smallF (f : Fib) : Prop := (0 ≤ f.a ∧ f.a ≤ 1048576) ∧ (0 ≤ f.b ∧ f.b ≤ 1048576) ∧ (0 ≤ f.len ∧ f.len ≤ 1048576) ∧ (0 ≤ f.risk ∧ f.risk ≤ 1048576)
theorem smallF_of {n : Nat} {f : Fib} (hn : n ≤ 1048576) (h : fibB n f = true) : smallF f := by unfold fibB at h; unfold smallF; simp at h; omega
set_option maxHeartbeats 1000000 in
set_option maxRecDepth 100000 in
theorem l2Before_any (f g : Fib) (w : World) (hf : smallF f) (hg : smallF g) :
    Calls Tryz.prog 72 #[fibV f, fibV g] w fun e w' => e = .returned (.int .i64 (befF f g)) ∧ Below w.heap.size w w' := by
  obtain ⟨a, b, l, r⟩ := f
  obtain ⟨a', b', l', r'⟩ := g
  obtain ⟨⟨h1, h2⟩, ⟨h3, h4⟩, ⟨h5, h6⟩, ⟨h7, h8⟩⟩ := hf
  obtain ⟨⟨k1, k2⟩, ⟨k3, k4⟩, ⟨k5, k6⟩, ⟨k7, k8⟩⟩ := hg
  simp only at h1 h2 h3 h4 h5 h6 h7 h8 k1 k2 k3 k4 k5 k6 k7 k8
  unfold fibV befF
  simp only
  by_cases e1 : a = a'
  · have e1' : (a != a') = false := by simp [e1]
    rw [if_pos e1]; clear e1
    by_cases e2 : b = b'
    · have e2' : (b != b') = false := by simp [e2]
      rw [if_pos e2]; clear e2
      by_cases e3 : l = l'
      · have e3' : (l != l') = false := by simp [e3]
        rw [if_pos e3]; clear e3
        go_enter Tryz.func72, Tryz.ntmps72
        go_wp2
        go_ret
        exact ⟨rfl, bl_alloc (bl_alloc (Below.refl _ _) _) _⟩
      · have e3' : (l != l') = true := by simp [e3]
        rw [if_neg e3]; clear e3
        go_enter Tryz.func72, Tryz.ntmps72
        go_wp2
        go_ret
        exact ⟨rfl, bl_alloc (bl_alloc (Below.refl _ _) _) _⟩
    · have e2' : (b != b') = true := by simp [e2]
      rw [if_neg e2]; clear e2
      go_enter Tryz.func72, Tryz.ntmps72
      go_wp2
      go_ret
      exact ⟨rfl, bl_alloc (bl_alloc (Below.refl _ _) _) _⟩
  · have e1' : (a != a') = true := by simp [e1]
    rw [if_neg e1]; clear e1
    go_enter Tryz.func72, Tryz.ntmps72
    go_wp2
    go_ret
    exact ⟨rfl, bl_alloc (bl_alloc (Below.refl _ _) _) _⟩
end Go.Proofs.YtjfafhehpfjofaaGreat
/- The reference's l2Find, walked. Conditions: none. -/
namespace Go.Proofs.YtjfafhehpfjofaaGreat
open Go.RowKit
theorem l2Find_any {B n c : Nat} {A : Option Addr} {xs : List ByteArray} (s : ByteArray) (w : World) (hA : Sees elStr w B A n xs) (hn : n ≤ maxLen) :
    Calls Tryz.prog 70 #[.slice A n c, .string s] w fun e w' => e = .returned (.int .i64 (findI xs s)) ∧ w = w' := by
  unfold maxLen at hn
  go_enter Tryz.func70, Tryz.ntmps70
  go_wp2
  go_loop [5] (fun i => ∃ k : Nat, k ≤ n ∧ i = .int .i64 k ∧ Hid (noneTo xs s k)) (fun i => n - (intOf i).toNat)
  case atStart => exact ⟨0, Nat.zero_le _, rfl, noneTo_zero⟩
  case round =>
    obtain ⟨k, hk, rfl, hno⟩ := hrel
    by_cases hlt : k < n
    · obtain ⟨b, o, rfl, _, hx⟩ := hA.at_ hlt
      obtain ⟨x, hxk⟩ : ∃ x, xs[k]? = some x := ⟨xs[k]'(by rw [hA.len]; exact hlt), List.getElem?_eq_getElem _⟩
      have hc := hx k x hxk 0 _ rfl
      simp only [elStr, Nat.mul_one, Nat.add_zero] at hc
      clear hx
      by_cases heq : x = s
      · subst heq
        have HF := hid (findI_at hno hxk)
        clear hxk
        go_wp2
        go_ret
        exact ⟨by rw [HF.out]; rfl, rfl⟩
      · have hne := str_ne heq
        have HN := hid (noneTo_succ hno hxk heq)
        clear hxk hno
        go_wp2
        go_round
        case rel => exact ⟨k + 1, by omega, by go_num, HN⟩
        case measure => simp [intOf]; omega
    · have HF : Hid (findI xs s = -1) := findI_none hA.len (by obtain rfl : k = n := (by omega); exact hno.out)
      go_wp2
      go_ret
      exact ⟨by rw [HF.out]; rfl, rfl⟩
end Go.Proofs.YtjfafhehpfjofaaGreat
/- The reference's look at a name, walked: it answers as nameB. Conditions: none. -/
namespace Go.Proofs.YtjfafhehpfjofaaGreat
open Go.RowKit
set_option maxRecDepth 100000 in
theorem l2Sign_any (c : UInt8) (w : World) : Calls Tryz.prog 94 #[.int .u8 c.toNat] w fun e w' => e = .returned (.bool (letB c || digB c)) ∧ w = w' := by
  have hb : (c.toNat : Int) < 256 := by have := c.toNat_lt; omega
  rcases byte_cases c.toNat with h1 | ⟨h1, h2⟩ | ⟨h1, h2⟩ | ⟨h1, h2⟩ | h1
  all_goals
    go_enter Tryz.func94, Tryz.ntmps94
    go_wp2
    go_ret
    exact ⟨ret_bool (by unfold letB digB; rw [Bool.eq_iff_iff]; simp; omega), rfl⟩
/-- Behind the first byte's look, the rest of the reference's look. -/
theorem nameB_first {l : List UInt8} {c : UInt8} (hc : l[0]? = some c) (h : letB c = false) : nameB l = false := nameB_no hc (by unfold okAt; simp [h])
theorem nameB_long {l : List UInt8} (h : inB 1 8 l.length = false) : nameB l = false := by
  unfold nameB inB at *
  rw [Bool.and_eq_false_iff]
  refine .inl ?_
  rw [← h]; rw [Bool.eq_iff_iff]; simp only [decide_eq_true_eq]; omega
def sgTo (l : List UInt8) (k : Nat) : Prop := ∀ j c, j < k → l[j]? = some c → (letB c || digB c) = true
theorem sgTo_succ {l : List UInt8} {k : Nat} {c : UInt8} (h : sgTo l k) (hc : l[k]? = some c) (ho : (letB c || digB c) = true) : sgTo l (k + 1) := by
  intro j d hj hd
  rcases Nat.lt_succ_iff_lt_or_eq.1 hj with hlt | rfl
  · exact h j d hlt hd
  · rw [hc] at hd; injection hd with hd; subst hd; exact ho
theorem nameB_sg {l : List UInt8} {c0 : UInt8} (h : sgTo l l.length) (hc : l[0]? = some c0) (h0 : letB c0 = true) (hl : inB 1 8 l.length = true) : nameB l = true := by
  rw [nameB_yes, hl]
  intro j c hj hjc
  have := h j c hj hjc
  unfold okAt
  rcases Nat.eq_zero_or_pos j with rfl | hp
  · rw [hc] at hjc; injection hjc with hjc; subst hjc; simp [h0]
  · have : (j == 0) = false := by simp; omega
    rw [this]; simpa using h j c hj hjc
theorem nameB_bad {l : List UInt8} {k : Nat} {c : UInt8} (hc : l[k]? = some c) (h : (letB c || digB c) = false) : nameB l = false := by
  rw [Bool.or_eq_false_iff] at h
  exact nameB_no hc (by unfold okAt; simp [h.1, h.2])
set_option maxHeartbeats 1000000 in
set_option maxRecDepth 100000 in
theorem l2Name_any (s : ByteArray) (w : World) (hs : s.size ≤ maxLen) :
    Calls Tryz.prog 69 #[.string s] w fun e w' => e = .returned (.bool (nameB s.data.toList)) ∧ w = w' := by
  unfold maxLen at hs
  by_cases hin : inB 1 8 s.size = true
  · have hin' := hin
    unfold inB at hin'
    simp only [decide_eq_true_eq] at hin'
    have h0 : 0 < s.size := by omega
    have hg := get_list s 0 h0
    generalize hc : s[0] = c at hg
    have hget : s[0] = c := hc
    clear hc
    have hb : (c.toNat : Int) < 256 := by have := c.toNat_lt; omega
    by_cases hlet : letB c = true
    · have hl2 := hlet
      unfold letB at hl2
      simp only [decide_eq_true_eq] at hl2
      obtain ⟨hl3, hl4⟩ := hl2
      have hl5 : decide ((c.toNat : Int) < 97) = false := by simp; omega
      have hl6 : decide ((122 : Int) < (c.toNat : Int)) = false := by simp; omega
      have HG := hid hg
      have HL := hid hlet
      have HI := hid hin
      clear hg hlet
      go_enter Tryz.func69, Tryz.ntmps69
      go_wp2_with (go_at_call 45; refine (l1In_any _ _ _ _).mono ?_; rintro e w' ⟨rfl, rfl⟩)
      clear hget hl5 hl6 hin
      go_loop [3] (fun i => ∃ k : Nat, k ≤ s.size ∧ i = .int .i64 k ∧ Hid (sgTo s.data.toList k)) (fun i => s.size - (intOf i).toNat)
      case atStart => exact ⟨0, Nat.zero_le _, rfl, fun j c hj => by omega⟩
      case round =>
        obtain ⟨k, hk, rfl, hok⟩ := hrel
        by_cases hlt : k < s.size
        · have hgk := get_list s k hlt
          generalize hc : s[k] = d at hgk
          have hget : s[k] = d := hc
          clear hc
          by_cases hd : (letB d || digB d) = true
          · have HY : Hid (sgTo s.data.toList (k + 1)) := sgTo_succ hok hgk hd
            clear hgk
            go_wp2_with (go_at_call 94; refine (l2Sign_any d _).mono ?_; rintro e w' ⟨rfl, rfl⟩)
            go_round
            case rel => exact ⟨k + 1, by omega, by go_num, HY⟩
            case measure => simp [intOf]; omega
          · have hd' : (letB d || digB d) = false := by simpa using hd
            have HN : Hid (nameB s.data.toList = false) := nameB_bad hgk hd'
            clear hgk hd
            go_wp2_with (go_at_call 94; refine (l2Sign_any d _).mono ?_; rintro e w' ⟨rfl, rfl⟩)
            go_ret
            exact ⟨ret_bool HN.out.symm, rfl⟩
        · have HY : Hid (nameB s.data.toList = true) := nameB_sg (by rw [size_list]; obtain rfl : k = s.size := (by omega); exact hok.out) HG.out HL.out (by rw [size_list]; exact HI.out)
          go_wp2
          go_ret
          exact ⟨ret_bool HY.out.symm, rfl⟩
    · have hlet' : letB c = false := by simpa using hlet
      have HN : Hid (nameB s.data.toList = false) := nameB_first hg hlet'
      clear hg hlet
      have hlt : c.toNat < 97 ∨ 122 < c.toNat := by
        unfold letB at hlet'; simp at hlet'; omega
      clear hlet'
      rcases hlt with h1 | h1
      · have hl5 : decide ((c.toNat : Int) < 97) = true := by simp; omega
        go_enter Tryz.func69, Tryz.ntmps69
        go_wp2_with (go_at_call 45; refine (l1In_any _ _ _ _).mono ?_; rintro e w' ⟨rfl, rfl⟩)
        go_ret
        exact ⟨ret_bool HN.out.symm, rfl⟩
      · have hl5 : decide ((c.toNat : Int) < 97) = false := by simp; omega
        have hl6 : decide ((122 : Int) < (c.toNat : Int)) = true := by simp; omega
        go_enter Tryz.func69, Tryz.ntmps69
        go_wp2_with (go_at_call 45; refine (l1In_any _ _ _ _).mono ?_; rintro e w' ⟨rfl, rfl⟩)
        go_ret
        exact ⟨ret_bool HN.out.symm, rfl⟩
  · have hin' : inB 1 8 s.size = false := by simpa using hin
    have HN : Hid (nameB s.data.toList = false) := nameB_long (by rw [size_list]; exact hin')
    clear hin
    go_enter Tryz.func69, Tryz.ntmps69
    go_wp2_with (go_at_call 45; refine (l1In_any _ _ _ _).mono ?_; rintro e w' ⟨rfl, rfl⟩)
    go_ret
    exact ⟨ret_bool HN.out.symm, rfl⟩
end Go.Proofs.YtjfafhehpfjofaaGreat
/- The reference's l2Good, walked: it returns goodB. Conditions: none. -/
namespace Go.Proofs.YtjfafhehpfjofaaGreat
open Go.RowKit
theorem find_take {xs : List ByteArray} {k : Nat} {x : ByteArray} (hx : xs[k]? = some x) : hasB (xs.take k) x = true ↔ findI xs x ≠ (k : Int) := by
  rw [hasB_iff]
  constructor
  · intro h e
    obtain ⟨j, hj, hj2⟩ := List.mem_iff_getElem.1 h
    have hjk : j < k := by rw [List.length_take] at hj; omega
    have hjl : j < xs.length := by rw [List.length_take] at hj; omega
    have hxj : xs[j]? = some x := by rw [List.getElem?_eq_getElem hjl, ← hj2, List.getElem_take]
    -- the first place of x lies at j or before
    have key : ∀ (l : List ByteArray) (k0 j : Nat), l[j]? = some x → findFrom x l k0 ≤ ((k0 + j : Nat) : Int) := by
      intro l
      induction l with
      | nil => intro k0 j h; simp at h
      | cons y l ih =>
        intro k0 j h
        unfold findFrom
        by_cases hy : y = x
        · rw [if_pos hy]; omega
        · rw [if_neg hy]
          cases j with
          | zero => simp at h; exact absurd h hy
          | succ j => have := ih (k0 + 1) j (by simpa using h); omega
    have := key xs 0 j hxj
    unfold findI at e
    omega
  · intro h
    refine Classical.byContradiction fun hn => h ?_
    refine findI_at ?_ hx
    intro j hj hxj
    refine hn (List.mem_iff_getElem.2 ⟨j, ?_, ?_⟩)
    · rw [List.length_take]; have := (List.getElem?_eq_some_iff.1 hx).1; omega
    · obtain ⟨h1, h2⟩ := List.getElem?_eq_some_iff.1 hxj
      rw [List.getElem_take]; exact h2
theorem goodB_all {xs : List ByteArray} {fs : List Fib} (h1 : decide (2 ≤ xs.length ∧ xs.length ≤ 8) = true) (h2 : decide (fs.length ≤ 14) = true) (h3 : allTo (nameAt xs) xs.length) (h4 : allTo (fibAt xs.length fs) fs.length) : goodB xs fs = true := by
  rw [goodB_rest h3 h4, h1, h2]; rfl
set_option maxHeartbeats 2000000 in
set_option maxRecDepth 100000 in
theorem l2Good_any {B n c m d : Nat} {A A' : Option Addr} {xs : List ByteArray} {fs : List Fib} (w : World) (hA : Sees elStr w B A n xs) (hF : Sees elFib w B A' m fs) (hB : B ≤ w.heap.size) (hn : n ≤ 1048576) (hm : m ≤ 1048576)
    (hx : ∀ x ∈ xs, x.size ≤ maxLen) :
    Calls Tryz.prog 44 #[.agg #[.slice A n c, .slice A' m d]] w fun e w' => e = .returned (.bool (goodB xs fs)) ∧ Below w.heap.size w w' := by
  have hlx := hA.len
  have hlf := hF.len
  by_cases r1 : inB 2 8 n = true
  · by_cases r2 : m ≤ 14
    · have r1' := r1
      unfold inB at r1'
      have R1 : Hid (decide (2 ≤ xs.length ∧ xs.length ≤ 8) = true) := by rw [hlx]; simp only [decide_eq_true_eq] at r1' ⊢; show _ ∧ _; omega
      have R2 : Hid (decide (fs.length ≤ 14) = true) := hid (by rw [hlf]; simpa using r2)
      have r3 : decide ((14 : Int) < (m : Int)) = false := by simp; omega
      have r4 : decide (14 < m) = false := by simp; omega
      have HLX := hid hlx
      have HLF := hid hlf
      clear r1' r2 hlx hlf
      go_enter Tryz.func44, Tryz.ntmps44
      go_wp2_with (go_at_call 45; refine (l1In_any _ _ _ _).mono ?_; rintro e w' ⟨rfl, rfl⟩)
      obtain ⟨wo, hwo⟩ : ∃ wo : World, wo = w.alloc (.cells #[.slice A n c, .slice A' m d] 27) := ⟨_, rfl⟩
      rw [← hwo]
      have g0 : wo.cell? ⟨w.heap.size, 0, none⟩ = some (.slice A n c) := by rw [hwo]; go_simp
      have g1 : wo.cell? ⟨w.heap.size, 1, none⟩ = some (.slice A' m d) := by rw [hwo]; go_simp
      have hbo : Below w.heap.size w wo := by rw [hwo]; exact bl_alloc (Below.refl _ _) _
      clear hwo r1 r3 r4
      go_loopw [3] (fun i wr => ∃ k : Nat, k ≤ n ∧ i = .int .i64 k ∧ Hid (allTo (nameAt xs) k) ∧ Below wo.heap.size wo wr) (fun i _ => n - (intOf i).toNat)
      case atStart => exact ⟨0, Nat.zero_le _, rfl, allTo_zero _, Below.refl _ _⟩
      case round =>
        obtain ⟨k, hk, rfl, hall, hb⟩ := hrel
        have c0 := bl_cell hb g0
        have c1 := bl_cell hb g1
        have hbw := bl_then hbo hb
        by_cases hlt : k < n
        · obtain ⟨b, o, rfl, _, hc⟩ := hA.at_ hlt
          obtain ⟨x, hxk⟩ := get_of hA.len hlt
          have hcx := bl_cell hbw (hc k x hxk 0 _ rfl)
          simp only [elStr, Nat.mul_one, Nat.add_zero] at hcx
          have hxs : x.size ≤ maxLen := hx x (List.mem_of_getElem? hxk)
          have hS := hid ((hA.below (hbw.mono hB)).more (Nat.le_trans hB hbw.size))
          clear hc g0 g1
          have hat : nameAt xs k = (nameB x.data.toList && !hasB (xs.take k) x) := by unfold nameAt; rw [getD_of hxk]
          have hft := find_take hxk
          clear hxk
          go_wp2
          have C0 : ∀ w', Cls wr w' → w'.cell? ⟨w.heap.size, 0, none⟩ = some (.slice (some ⟨b, o, none⟩) n c) := fun _ h => h.cell c0
          have C2 : ∀ w', Cls wr w' → w'.cell? ⟨b, o + k, none⟩ = some (.string x) := fun _ h => h.cell hcx
          have C3 : Hid (∀ w', Cls wr w' → Sees elStr w' wr.heap.size (some ⟨b, o, none⟩) n xs) := fun w' h => hS.out.below h
          clear c0 c1 hcx hS
          have i1 : (k : Int) < (n : Int) := by omega
          by_cases h1 : nameB x.data.toList = true
          · by_cases h2 : hasB (xs.take k) x = true
            · have HN : Hid (goodB xs fs = false) := goodB_name (by rw [HLX.out]; exact hlt) (by rw [hat, h1, h2]; rfl)
              have e1 : (findI xs x != (k : Int)) = true := by rw [bne_iff_ne]; exact hft.1 h2
              clear hat hft h2
              refine region_cls (by kernel_rfl) (by kernel_rfl) ?_
              repeat (first
                | ((with_reducible refine quiet_pos ?_ (fun K hK => ?_))
                   · rfl
                   apply Exists.intro
                   refine ⟨fun w' hw' => ?_, ?_⟩
                   · go_simp
                     first
                       | with_reducible rfl
                       | (go_at_call 69; exact hw'.same (l2Name_any x _ hxs))
                       | (go_at_call 70; exact hw'.same (l2Find_any x _ (C3.out _ hw') (by simp only [maxLen]; omega)))
                   simp only [Act.put, List.setIfInBounds_toArray, List.set_cons_zero, List.set_cons_succ]
                   refine hK _ ?_; clear hK K)
                | ((with_reducible refine quiet_neg ?_ (fun K hK => ?_))
                   · rfl
                   simp only [Act.put, List.setIfInBounds_toArray, List.set_cons_zero, List.set_cons_succ]
                   refine hK _ ?_; clear hK K))
              with_reducible refine wpQuiet_nil ?_
              intro w3 hw3
              go_wp2
              go_ret
              exact ⟨ret_bool HN.out.symm, bl_then hbw hw3⟩
            · have h2' : hasB (xs.take k) x = false := by simpa using h2
              have HY : Hid (allTo (nameAt xs) (k + 1)) := allTo_succ hall (by rw [hat, h1, h2']; rfl)
              have e1 : (findI xs x != (k : Int)) = false := by rw [bne_eq_false_iff_eq]; exact Classical.byContradiction fun hne => h2 (hft.2 hne)
              clear hat hft h2 h2'
              refine region_cls (by kernel_rfl) (by kernel_rfl) ?_
              repeat (first
                | ((with_reducible refine quiet_pos ?_ (fun K hK => ?_))
                   · rfl
                   apply Exists.intro
                   refine ⟨fun w' hw' => ?_, ?_⟩
                   · go_simp
                     first
                       | with_reducible rfl
                       | (go_at_call 69; exact hw'.same (l2Name_any x _ hxs))
                       | (go_at_call 70; exact hw'.same (l2Find_any x _ (C3.out _ hw') (by simp only [maxLen]; omega)))
                   simp only [Act.put, List.setIfInBounds_toArray, List.set_cons_zero, List.set_cons_succ]
                   refine hK _ ?_; clear hK K)
                | ((with_reducible refine quiet_neg ?_ (fun K hK => ?_))
                   · rfl
                   simp only [Act.put, List.setIfInBounds_toArray, List.set_cons_zero, List.set_cons_succ]
                   refine hK _ ?_; clear hK K))
              with_reducible refine wpQuiet_nil ?_
              intro w3 hw3
              go_wp2
              go_roundw
              case rel => exact ⟨k + 1, by omega, by go_num, HY, bl_then hb hw3⟩
              case measure => simp [intOf]; omega
          · have h1' : nameB x.data.toList = false := by simpa using h1
            have HN : Hid (goodB xs fs = false) := goodB_name (by rw [HLX.out]; exact hlt) (by rw [hat, h1']; rfl)
            clear hat hft h1
            refine region_cls (by kernel_rfl) (by kernel_rfl) ?_
            repeat (first
              | ((with_reducible refine quiet_pos ?_ (fun K hK => ?_))
                 · rfl
                 apply Exists.intro
                 refine ⟨fun w' hw' => ?_, ?_⟩
                 · go_simp
                   first
                     | with_reducible rfl
                     | (go_at_call 69; exact hw'.same (l2Name_any x _ hxs))
                     | (go_at_call 70; exact hw'.same (l2Find_any x _ (C3.out _ hw') (by simp only [maxLen]; omega)))
                 simp only [Act.put, List.setIfInBounds_toArray, List.set_cons_zero, List.set_cons_succ]
                 refine hK _ ?_; clear hK K)
              | ((with_reducible refine quiet_neg ?_ (fun K hK => ?_))
                 · rfl
                 simp only [Act.put, List.setIfInBounds_toArray, List.set_cons_zero, List.set_cons_succ]
                 refine hK _ ?_; clear hK K))
            with_reducible refine wpQuiet_nil ?_
            intro w3 hw3
            go_wp2
            go_ret
            exact ⟨ret_bool HN.out.symm, bl_then hbw hw3⟩
        · have hnames : Hid (allTo (nameAt xs) xs.length) := by obtain rfl : k = n := (by omega); rw [HLX.out]; exact hall.out
          clear hall
          go_wp2
          obtain ⟨wp, rfl⟩ : ∃ wp : World, wp = wr := ⟨_, rfl⟩
          clear c0 c1 hlt hk
          go_loopw [4] (fun i wr => ∃ j : Nat, j ≤ m ∧ i = .int .i64 j ∧ Hid (allTo (fibAt n fs) j) ∧ Below wo.heap.size wo wr) (fun i _ => m - (intOf i).toNat)
          case atStart => exact ⟨0, Nat.zero_le _, rfl, allTo_zero _, hb⟩
          case round =>
            clear hb hbw
            obtain ⟨j, hj, rfl, hall, hb⟩ := hrel
            have c0 := bl_cell hb g0
            have c1 := bl_cell hb g1
            have hbw := bl_then hbo hb
            by_cases hlt : j < m
            · obtain ⟨b, o, rfl, _, hc⟩ := hF.at_ hlt
              obtain ⟨f, hfj⟩ := get_of hF.len hlt
              have f0 := bl_cell hbw (hc j f hfj 0 _ rfl)
              have f1 := bl_cell hbw (hc j f hfj 1 _ rfl)
              have f2 := bl_cell hbw (hc j f hfj 2 _ rfl)
              have f3 := bl_cell hbw (hc j f hfj 3 _ rfl)
              simp only [elFib, Nat.add_zero] at f0 f1 f2 f3
              have hg : 0 < j → ∃ g, fs[j - 1]? = some g ∧ wr.cell? ⟨b, o + (j - 1) * 4, none⟩ = some (.int .i64 g.a) ∧ wr.cell? ⟨b, o + (j - 1) * 4 + 1, none⟩ = some (.int .i64 g.b) ∧ wr.cell? ⟨b, o + (j - 1) * 4 + 2, none⟩ = some (.int .i64 g.len) ∧ wr.cell? ⟨b, o + (j - 1) * 4 + 3, none⟩ = some (.int .i64 g.risk) := by
                intro hj0
                obtain ⟨g, hgj⟩ := get_of (k := j - 1) hF.len (by omega)
                exact ⟨g, hgj, bl_cell hbw (hc (j - 1) g hgj 0 _ rfl), bl_cell hbw (hc (j - 1) g hgj 1 _ rfl), bl_cell hbw (hc (j - 1) g hgj 2 _ rfl), bl_cell hbw (hc (j - 1) g hgj 3 _ rfl)⟩
              clear hc g0 g1
              go_wp2
              have C0 : ∀ w', Cls wr w' → w'.cell? ⟨w.heap.size, 0, none⟩ = some (.slice A n c) := fun _ h => h.cell c0
              have C1 : ∀ w', Cls wr w' → w'.cell? ⟨w.heap.size, 1, none⟩ = some (.slice (some ⟨b, o, none⟩) m d) := fun _ h => h.cell c1
              have T0 : ∀ w', Cls wr w' → w'.cell? ⟨b, o + j * 4, none⟩ = some (.int .i64 f.a) := fun _ h => h.cell f0
              have T1 : ∀ w', Cls wr w' → w'.cell? ⟨b, o + j * 4 + 1, none⟩ = some (.int .i64 f.b) := fun _ h => h.cell f1
              have T2 : ∀ w', Cls wr w' → w'.cell? ⟨b, o + j * 4 + 2, none⟩ = some (.int .i64 f.len) := fun _ h => h.cell f2
              have T3 : ∀ w', Cls wr w' → w'.cell? ⟨b, o + j * 4 + 3, none⟩ = some (.int .i64 f.risk) := fun _ h => h.cell f3
              clear c0 c1 f0 f1 f2 f3
              have i0 : (j : Int) < (m : Int) := by omega
              have hfat : fibAt n fs j = (fibB n f && (j == 0 || decide (cmpFib (fs.getD (j - 1) default) f ≤ 0))) := by unfold fibAt; rw [getD_of hfj]
              clear hfj
              by_cases hok : fibB n f = true
              · by_cases hj0 : j = 0
                · have HY : Hid (allTo (fibAt n fs) (j + 1)) := allTo_succ hall (by rw [hfat, hok, hj0]; rfl)
                  have e6 : decide (0 < j) = false := by simp; omega
                  clear hfat hg hj0
                  refine region_cls (by kernel_rfl) (by kernel_rfl) ?_
                  repeat (first
                    | ((with_reducible refine quiet_pos ?_ (fun K hK => ?_))
                       · rfl
                       apply Exists.intro
                       refine ⟨fun w' hw' => ?_, ?_⟩
                       · go_simp
                         first
                           | with_reducible rfl
                           | (go_at_call 71; exact hw'.call (l2Fiber_any f n _ hn))
                       simp only [Act.put, List.setIfInBounds_toArray, List.set_cons_zero, List.set_cons_succ]
                       refine hK _ ?_; clear hK K)
                    | ((with_reducible refine quiet_neg ?_ (fun K hK => ?_))
                       · rfl
                       simp only [Act.put, List.setIfInBounds_toArray, List.set_cons_zero, List.set_cons_succ]
                       refine hK _ ?_; clear hK K))
                  with_reducible refine wpQuiet_nil ?_
                  intro w3 hw3
                  go_wp2
                  go_roundw
                  case rel => exact ⟨j + 1, by omega, by go_num, HY, bl_then hb hw3⟩
                  case measure => simp [intOf]; omega
                · obtain ⟨g, hgj, q0, q1, q2, q3⟩ := hg (by omega)
                  have e6 : decide (0 < j) = true := by simp; omega
                  have hsf := hid (smallF_of hn hok)
                  have hsg : Hid (smallF g) := by
                    refine smallF_of hn ?_
                    have := hall.out (j - 1) (by omega)
                    unfold fibAt at this
                    rw [getD_of hgj, Bool.and_eq_true] at this
                    exact this.1
                  have Q0 : ∀ w', Cls wr w' → w'.cell? ⟨b, o + (j - 1) * 4, none⟩ = some (.int .i64 g.a) := fun _ h => h.cell q0
                  have Q1 : ∀ w', Cls wr w' → w'.cell? ⟨b, o + (j - 1) * 4 + 1, none⟩ = some (.int .i64 g.b) := fun _ h => h.cell q1
                  have Q2 : ∀ w', Cls wr w' → w'.cell? ⟨b, o + (j - 1) * 4 + 2, none⟩ = some (.int .i64 g.len) := fun _ h => h.cell q2
                  have Q3 : ∀ w', Cls wr w' → w'.cell? ⟨b, o + (j - 1) * 4 + 3, none⟩ = some (.int .i64 g.risk) := fun _ h => h.cell q3
                  clear q0 q1 q2 q3
                  rw [getD_of hgj] at hfat
                  have i1 : IntKind.i64.wrap ((j : Int) - 1) = (j : Int) - 1 := IntWalk.i64_in _ (by omega)
                  have i2 : (0 : Int) ≤ (j : Int) - 1 := by omega
                  have i3 : ((j : Int) - 1).toNat = j - 1 := by omega
                  have i4 : (j : Int) - 1 < (m : Int) := by omega
                  have i5 : (1 : Int) ≤ (j : Int) := by omega
                  have i6 : 1 ≤ j := by omega
                  by_cases hcmp : befF g f ≤ 0
                  · have HY : Hid (allTo (fibAt n fs) (j + 1)) := allTo_succ hall (by rw [hfat, hok]; simp [(befF_le g f).1 hcmp])
                    have e7 : decide (0 < befF g f) = false := by simp; omega
                    clear hfat hg hcmp hgj
                    refine region_cls (by kernel_rfl) (by kernel_rfl) ?_
                    repeat (first
                      | ((with_reducible refine quiet_pos ?_ (fun K hK => ?_))
                         · rfl
                         apply Exists.intro
                         refine ⟨fun w' hw' => ?_, ?_⟩
                         · go_simp
                           first
                             | with_reducible rfl
                             | (go_at_call 71; exact hw'.call (l2Fiber_any f n _ hn))
                             | (go_at_call 72; exact hw'.call (l2Before_any g f _ hsg.out hsf.out))
                         simp only [Act.put, List.setIfInBounds_toArray, List.set_cons_zero, List.set_cons_succ]
                         refine hK _ ?_; clear hK K)
                      | ((with_reducible refine quiet_neg ?_ (fun K hK => ?_))
                         · rfl
                         simp only [Act.put, List.setIfInBounds_toArray, List.set_cons_zero, List.set_cons_succ]
                         refine hK _ ?_; clear hK K))
                    with_reducible refine wpQuiet_nil ?_
                    intro w3 hw3
                    go_wp2
                    go_roundw
                    case rel => exact ⟨j + 1, by omega, by go_num, HY, bl_then hb hw3⟩
                    case measure => simp [intOf]; omega
                  · have HN : Hid (goodB xs fs = false) := goodB_fibAt (by rw [HLF.out]; exact hlt) (by rw [HLX.out, hfat, hok]; simp [hj0, show ¬ cmpFib g f ≤ 0 from fun h => hcmp ((befF_le g f).2 h)])
                    have e7 : decide (0 < befF g f) = true := by simp; omega
                    clear hfat hg hcmp hgj
                    refine region_cls (by kernel_rfl) (by kernel_rfl) ?_
                    repeat (first
                      | ((with_reducible refine quiet_pos ?_ (fun K hK => ?_))
                         · rfl
                         apply Exists.intro
                         refine ⟨fun w' hw' => ?_, ?_⟩
                         · go_simp
                           first
                             | with_reducible rfl
                             | (go_at_call 71; exact hw'.call (l2Fiber_any f n _ hn))
                             | (go_at_call 72; exact hw'.call (l2Before_any g f _ hsg.out hsf.out))
                         simp only [Act.put, List.setIfInBounds_toArray, List.set_cons_zero, List.set_cons_succ]
                         refine hK _ ?_; clear hK K)
                      | ((with_reducible refine quiet_neg ?_ (fun K hK => ?_))
                         · rfl
                         simp only [Act.put, List.setIfInBounds_toArray, List.set_cons_zero, List.set_cons_succ]
                         refine hK _ ?_; clear hK K))
                    with_reducible refine wpQuiet_nil ?_
                    intro w3 hw3
                    go_wp2
                    go_ret
                    exact ⟨ret_bool HN.out.symm, bl_then hbw hw3⟩
              · have hok' : fibB n f = false := by simpa using hok
                have HN : Hid (goodB xs fs = false) := goodB_fibAt (by rw [HLF.out]; exact hlt) (by rw [HLX.out, hfat, hok']; rfl)
                clear hfat hg hok
                refine region_cls (by kernel_rfl) (by kernel_rfl) ?_
                repeat (first
                  | ((with_reducible refine quiet_pos ?_ (fun K hK => ?_))
                     · rfl
                     apply Exists.intro
                     refine ⟨fun w' hw' => ?_, ?_⟩
                     · go_simp
                       first
                         | with_reducible rfl
                         | (go_at_call 71; exact hw'.call (l2Fiber_any f n _ hn))
                     simp only [Act.put, List.setIfInBounds_toArray, List.set_cons_zero, List.set_cons_succ]
                     refine hK _ ?_; clear hK K)
                  | ((with_reducible refine quiet_neg ?_ (fun K hK => ?_))
                     · rfl
                     simp only [Act.put, List.setIfInBounds_toArray, List.set_cons_zero, List.set_cons_succ]
                     refine hK _ ?_; clear hK K))
                with_reducible refine wpQuiet_nil ?_
                intro w3 hw3
                go_wp2
                go_ret
                exact ⟨ret_bool HN.out.symm, bl_then hbw hw3⟩
            · have hfibs : Hid (allTo (fibAt n fs) fs.length) := by obtain rfl : j = m := (by omega); rw [HLF.out]; exact hall.out
              have HR := hid (goodB_all R1.out R2.out hnames.out (by rw [HLX.out]; exact hfibs.out))
              clear hall g0 g1
              go_wp2
              go_ret
              exact ⟨ret_bool HR.out.symm, hbw⟩
    · have HN : Hid (goodB xs fs = false) := goodB_fib (by rw [hlf]; simpa using r2)
      have r3 : decide ((14 : Int) < (m : Int)) = true := by simp; omega
      have r4 : decide (14 < m) = true := by simp; omega
      clear hlx hlf
      go_enter Tryz.func44, Tryz.ntmps44
      go_wp2_with (go_at_call 45; refine (l1In_any _ _ _ _).mono ?_; rintro e w' ⟨rfl, rfl⟩)
      go_ret
      exact ⟨ret_bool HN.out.symm, bl_alloc (Below.refl _ _) _⟩
  · have r1' : inB 2 8 n = false := by simpa using r1
    have HN : Hid (goodB xs fs = false) := goodB_len (by rw [hlx]; unfold inB at r1'; simp only [decide_eq_false_iff_not] at r1' ⊢; omega)
    clear hlx hlf r1
    go_enter Tryz.func44, Tryz.ntmps44
    go_wp2_with (go_at_call 45; refine (l1In_any _ _ _ _).mono ?_; rintro e w' ⟨rfl, rfl⟩)
    go_ret
    exact ⟨ret_bool HN.out.symm, bl_alloc (Below.refl _ _) _⟩
end Go.Proofs.YtjfafhehpfjofaaGreat
/- A network in memory, under one word; its two looks under that word. Conditions: none. -/
namespace Go.Proofs.YtjfafhehpfjofaaGreat
open Go.RowKit
/-- The value is a network that shows the names xs and the fibers fs. -/
def NetIs (w : World) (A : Option Addr) (n c : Nat) (A' : Option Addr) (m d : Nat) (xs : List ByteArray) (fs : List Fib) : Prop :=
  (n ≤ c ∧ n ≤ 1048576) ∧ (m ≤ d ∧ m ≤ 1048576) ∧ Sees elStr w w.heap.size A n xs ∧ Sees elFib w w.heap.size A' m fs ∧ ∀ x ∈ xs, x.size ≤ maxLen
section
variable {w w' : World} {n c m d : Nat} {A A' : Option Addr} {xs : List ByteArray} {fs : List Fib}
theorem NetIs.grow (h : NetIs w A n c A' m d xs fs) (hb : Below w.heap.size w w') : NetIs w' A n c A' m d xs fs :=
  ⟨h.1, h.2.1, (h.2.2.1.grow hb).more hb.size, (h.2.2.2.1.grow hb).more hb.size, h.2.2.2.2⟩
theorem NetIs.strs (h : NetIs w A n c A' m d xs fs) : Sees elStr w w.heap.size A n xs := h.2.2.1
theorem NetIs.fibs (h : NetIs w A n c A' m d xs fs) : Sees elFib w w.heap.size A' m fs := h.2.2.2.1
theorem NetIs.nle (h : NetIs w A n c A' m d xs fs) : n ≤ 1048576 := h.1.2
theorem NetIs.mle (h : NetIs w A n c A' m d xs fs) : m ≤ 1048576 := h.2.1.2
theorem NetIs.xlen (h : NetIs w A n c A' m d xs fs) : xs.length = n := h.2.2.1.len
theorem NetIs.flen (h : NetIs w A n c A' m d xs fs) : fs.length = m := h.2.2.2.1.len
theorem NetOwn.is {base : Nat} (h : NetOwn w base A n c A' m d xs fs) (hn : n ≤ 1048576) (hm : m ≤ 1048576) (hx : ∀ x ∈ xs, x.size ≤ maxLen) : NetIs w A n c A' m d xs fs :=
  ⟨⟨h.1, hn⟩, ⟨h.2.2.1, hm⟩, h.strs, h.fibs, hx⟩
end
theorem validN {n c m d : Nat} {A A' : Option Addr} {xs : List ByteArray} {fs : List Fib} (w : World) (h : NetIs w A n c A' m d xs fs) :
    Calls Tryz.prog 36 #[.agg #[.slice A n c, .slice A' m d]] w fun e w' => e = .returned (.bool (goodB xs fs)) ∧ Below w.heap.size w w' :=
  isValid_any w h.strs h.fibs (Nat.le_refl _) h.nle h.mle h.1.1 h.2.1.1 h.2.2.2.2
theorem goodN {n c m d : Nat} {A A' : Option Addr} {xs : List ByteArray} {fs : List Fib} (w : World) (h : NetIs w A n c A' m d xs fs) :
    Calls Tryz.prog 44 #[.agg #[.slice A n c, .slice A' m d]] w fun e w' => e = .returned (.bool (goodB xs fs)) ∧ Below w.heap.size w w' :=
  l2Good_any w h.strs h.fibs (Nat.le_refl _) h.nle h.mle h.2.2.2.2
theorem goodB_bd {xs : List ByteArray} {fs : List Fib} (h : goodB xs fs = true) : 2 ≤ xs.length ∧ xs.length ≤ 8 ∧ fs.length ≤ 14 := by
  unfold goodB at h; simp at h; omega
theorem goodB_fibB {xs : List ByteArray} {fs : List Fib} (h : goodB xs fs = true) {f : Fib} (hf : f ∈ fs) : fibB xs.length f = true := by
  obtain ⟨k, hk, e⟩ := List.mem_iff_getElem.1 hf
  unfold goodB at h
  rw [Bool.and_eq_true] at h
  have := allB_iff.1 h.2 k hk
  unfold fibAt at this
  rw [Bool.and_eq_true, getD_of (x := f) (by rw [List.getElem?_eq_getElem hk, e])] at this
  exact this.1
end Go.Proofs.YtjfafhehpfjofaaGreat
/- The other end of a fiber: the program's and the reference's functions, walked. Conditions: none. -/
namespace Go.Proofs.YtjfafhehpfjofaaGreat
open Go.RowKit
def otherF (f : Fib) (v : Int) : Int := if v = f.a then f.b else if v = f.b then f.a else -1
theorem otherF_bd {n : Nat} {f : Fib} (h : fibB n f = true) (v : Int) : -1 ≤ otherF f v ∧ otherF f v < n := by
  unfold fibB at h; simp at h; unfold otherF; split <;> (try split) <;> omega
theorem otherF_out {n : Nat} {f : Fib} {v : Int} (h : fibB n f = true) (hv : inB 0 ((n : Int) - 1) v = false) : otherF f v = -1 := by
  unfold fibB at h; simp at h; unfold inB at hv; simp at hv; unfold otherF; rw [if_neg (by omega), if_neg (by omega)]
set_option maxRecDepth 100000 in
theorem otherEnd_any (f : Fib) (v : Int) (w : World) :
    Calls Tryz.prog 54 #[fibV f, .int .i64 v] w fun e w' => e = .returned (.int .i64 (otherF f v)) ∧ Below w.heap.size w w' := by
  obtain ⟨a, b, l, r⟩ := f
  unfold fibV otherF
  simp only
  by_cases h1 : v = a
  · have e1 : (v == a) = true := by simp [h1]
    rw [if_pos h1]; clear h1
    go_enter Tryz.func54, Tryz.ntmps54
    go_wp2
    go_ret
    exact ⟨rfl, bl_alloc (Below.refl _ _) _⟩
  · have e1 : (v == a) = false := by simp [h1]
    rw [if_neg h1]; clear h1
    by_cases h2 : v = b
    · have e2 : (v == b) = true := by simp [h2]
      rw [if_pos h2]; clear h2
      go_enter Tryz.func54, Tryz.ntmps54
      go_wp2
      go_ret
      exact ⟨rfl, bl_alloc (Below.refl _ _) _⟩
    · have e2 : (v == b) = false := by simp [h2]
      rw [if_neg h2]; clear h2
      go_enter Tryz.func54, Tryz.ntmps54
      go_wp2
      go_ret
      exact ⟨rfl, bl_alloc (Below.refl _ _) _⟩
section
variable {n c m d : Nat} {A A' : Option Addr} {xs : List ByteArray} {fs : List Fib}
set_option maxRecDepth 100000 in
theorem l2Other_any (i : Int) (v : Int) (w : World) (h : NetIs w A n c A' m d xs fs) {f : Fib} (h0 : 0 ≤ i) (h1 : i < m) (hf : fs[i.toNat]? = some f) :
    Calls Tryz.prog 76 #[.agg #[.slice A n c, .slice A' m d], .int .i64 i, .int .i64 v] w fun e w' => e = .returned (.int .i64 (otherF f v)) ∧ Below w.heap.size w w' := by
  have hb0 := bl_alloc (Below.refl w.heap.size w) (.cells #[.slice A n c, .slice A' m d] 27)
  obtain ⟨b, o, rfl, _, hc⟩ := (h.grow hb0).fibs.at_ (k := i.toNat) (by omega)
  have f0 := hc _ f hf 0 _ rfl
  have f1 := hc _ f hf 1 _ rfl
  have f2 := hc _ f hf 2 _ rfl
  have f3 := hc _ f hf 3 _ rfl
  simp only [elFib, Nat.add_zero] at f0 f1 f2 f3
  have hm := h.mle
  clear hc hf h
  obtain ⟨a, b', l, r⟩ := f
  unfold otherF
  simp only at f0 f1 f2 f3 ⊢
  by_cases h2 : v = a
  · have e1 : (v == a) = true := by simp [h2]
    rw [if_pos h2]; clear h2
    go_enter Tryz.func76, Tryz.ntmps76
    go_wp2
    go_ret
    exact ⟨rfl, bl_alloc hb0 _⟩
  · have e1 : (v == a) = false := by simp [h2]
    rw [if_neg h2]; clear h2
    by_cases h3 : v = b'
    · have e2 : (v == b') = true := by simp [h3]
      rw [if_pos h3]; clear h3
      go_enter Tryz.func76, Tryz.ntmps76
      go_wp2
      go_ret
      exact ⟨rfl, bl_alloc hb0 _⟩
    · have e2 : (v == b') = false := by simp [h3]
      rw [if_neg h3]; clear h3
      go_enter Tryz.func76, Tryz.ntmps76
      go_wp2
      go_ret
      exact ⟨rfl, bl_alloc hb0 _⟩
end
end Go.Proofs.YtjfafhehpfjofaaGreat
/- Routes: the nodes they come by, in plain Lean; a route in memory. Conditions: none. -/
namespace Go.Proofs.YtjfafhehpfjofaaGreat
open Go.RowKit
/-- The node after k fibers. -/
def atW (fs : List Fib) (s : Int) (ids : List Int) : Nat → Int
  | 0 => s
  | k + 1 => otherF (fs.getD (ids.getD k 0).toNat ⟨0, 0, 0, 0⟩) (atW fs s ids k)
/-- The nodes up to there. -/
def outW (fs : List Fib) (s : Int) (ids : List Int) (k : Nat) : List Int := (List.range (k + 1)).map (atW fs s ids)
theorem outW_len (fs : List Fib) (s : Int) (ids : List Int) (k : Nat) : (outW fs s ids k).length = k + 1 := by simp [outW]
theorem outW_zero (fs : List Fib) (s : Int) (ids : List Int) : outW fs s ids 0 = [s] := rfl
theorem outW_succ (fs : List Fib) (s : Int) (ids : List Int) (k : Nat) : outW fs s ids (k + 1) = outW fs s ids k ++ [atW fs s ids (k + 1)] := by unfold outW; rw [List.range_succ (n := k + 1), List.map_append]; rfl
theorem outW_get (fs : List Fib) (s : Int) (ids : List Int) (k : Nat) : (outW fs s ids k)[k]? = some (atW fs s ids k) := by simp [outW]
theorem atW_succ {fs : List Fib} {s : Int} {ids : List Int} {k : Nat} {i : Int} {f : Fib} (hi : ids[k]? = some i) (hf : fs[i.toNat]? = some f) : atW fs s ids (k + 1) = otherF f (atW fs s ids k) := by
  show otherF _ _ = _
  rw [getD_of hi, getD_of hf]
/-- Step k is one that a route may take. -/
def okW (m : Nat) (fs : List Fib) (s : Int) (ids : List Int) (k : Nat) : Bool :=
  inB 0 ((m : Int) - 1) (ids.getD k 0) && (!decide (atW fs s ids (k + 1) < 0) && !hasB (outW fs s ids k) (atW fs s ids (k + 1)))
/-- Is it a route (of a network that is valid)? -/
def rtB (n : Nat) (fs : List Fib) (s : Int) (ids : List Int) : Bool := inB 0 ((n : Int) - 1) s && (!(ids.length == 0) && allB (okW fs.length fs s ids) ids.length)
/-- Its nodes; none of what is no route. -/
def rtL (n : Nat) (fs : List Fib) (s : Int) (ids : List Int) : List Int := if rtB n fs s ids then outW fs s ids ids.length else []
theorem rtL_yes {n : Nat} {fs : List Fib} {s : Int} {ids : List Int} (h : rtB n fs s ids = true) : rtL n fs s ids = outW fs s ids ids.length := if_pos h
theorem rtL_no {n : Nat} {fs : List Fib} {s : Int} {ids : List Int} (h : rtB n fs s ids = false) : rtL n fs s ids = [] := by unfold rtL; rw [h]; rfl
/-- .. of a network that may be invalid. -/
def routeB (xs : List ByteArray) (fs : List Fib) (s : Int) (ids : List Int) : Bool := goodB xs fs && rtB xs.length fs s ids
/-- A route lies in memory. -/
def RtIs (w : World) (R : Option Addr) (k e : Nat) (ids : List Int) : Prop := (k ≤ e ∧ k ≤ 1048576) ∧ Sees elInt w w.heap.size R k ids
section
variable {w w' : World} {R : Option Addr} {k e : Nat} {ids : List Int}
theorem RtIs.grow (h : RtIs w R k e ids) (hb : Below w.heap.size w w') : RtIs w' R k e ids := ⟨h.1, (h.2.grow hb).more hb.size⟩
theorem RtIs.len (h : RtIs w R k e ids) : ids.length = k := h.2.len
theorem RtIs.le (h : RtIs w R k e ids) : k ≤ 1048576 := h.1.2
end
end Go.Proofs.YtjfafhehpfjofaaGreat
/- eqStringS, walked: two slices that show one list are equal. Conditions: none. -/
namespace Go.Proofs.YtjfafhehpfjofaaGreat
open Go.RowKit
end Go.Proofs.YtjfafhehpfjofaaGreat
/- eqFiber, eqFiberS and eqNetwork, walked: what shows one list is equal. Conditions: none. -/
namespace Go.Proofs.YtjfafhehpfjofaaGreat
open Go.RowKit
end Go.Proofs.YtjfafhehpfjofaaGreat
/- heldIntSS, walked. Conditions: at most 1048576 rows and numbers in a row; the last mark below 2^40. -/
namespace Go.Proofs.YtjfafhehpfjofaaGreat
open Go.RowKit
end Go.Proofs.YtjfafhehpfjofaaGreat
/- A ledger of what a walk has made in memory: the blocks of each thing, and how it reads. Conditions: none. -/
namespace Go.Proofs.YtjfafhehpfjofaaGreat
open Go.RowKit
/-- One thing in memory: its blocks; how it reads. -/
structure Thing where
  S : Nat → Prop
  is : World → Prop
  st : ∀ w w' : World, is w → w.heap.size ≤ w'.heap.size → (∀ b, S b → w'.heap[b]? = w.heap[b]?) → is w'
  lies : ∀ w, is w → ∀ b, S b → b < w.heap.size
/-- From w0 to w these things have been made, no two of which share a block; what was there at w0 is as it was. -/
structure Led (w0 w : World) (L : List Thing) : Prop where
  bl : Below w0.heap.size w0 w
  all : ∀ (i : Nat) t, L[i]? = some t → t.is w ∧ ∀ b, t.S b → w0.heap.size ≤ b
  apart : ∀ (i j : Nat) a b, i ≠ j → L[i]? = some a → L[j]? = some b → ∀ k, a.S k → ¬ b.S k
section
variable {w0 w w' : World} {L : List Thing}
theorem Led.nil (w : World) : Led w w [] := ⟨Below.refl _ _, fun i t h => by simp at h, fun i j a b _ h => by simp at h⟩
theorem Led.step (h : Led w0 w L) (hb : Below w.heap.size w w') : Led w0 w' L :=
  ⟨bl_then h.bl hb, fun i t ht => ⟨t.st w w' (h.all i t ht).1 hb.size (fun b hS => hb.block b (t.lies w (h.all i t ht).1 b hS)), (h.all i t ht).2⟩, h.apart⟩
theorem Led.put (h : Led w0 w L) (hb : Below w.heap.size w w') (t : Thing) (hS : ∀ b, t.S b → w.heap.size ≤ b) (hi : t.is w') : Led w0 w' (t :: L) := by
  have h' := h.step hb
  refine ⟨h'.bl, fun i u hu => ?_, fun i j a b hij ha hb2 k h1 h2 => ?_⟩
  · cases i with
    | zero => simp at hu; subst hu; exact ⟨hi, fun b hb3 => Nat.le_trans h.bl.size (hS b hb3)⟩
    | succ i => simp at hu; exact h'.all i u hu
  · cases i with
    | zero =>
      cases j with
      | zero => exact hij rfl
      | succ j =>
        simp at ha hb2; subst ha
        have := hS k h1
        have := b.lies w (h.all j b hb2).1 k h2
        omega
    | succ i =>
      cases j with
      | zero =>
        simp at ha hb2; subst hb2
        have := hS k h2
        have := a.lies w (h.all i a ha).1 k h1
        omega
      | succ j =>
        simp at ha hb2
        exact h.apart i j a b (by omega) ha hb2 k h1 h2
theorem Led.get (h : Led w0 w L) (i : Nat) {t : Thing} (hi : L[i]? = some t) : t.is w := (h.all i t hi).1
theorem Led.touch (h : Led w0 w L) (i : Nat) {t t' : Thing} (hi : L[i]? = some t) (hS : t'.S = t.S) (ht : Touch t.S w w') (his : t'.is w') : Led w0 w' (L.set i t') := by
  refine ⟨h.bl.trans (ht.below (B := w0.heap.size) (h.all i t hi).2 h.bl.size), fun j u hu => ?_, fun j k a b hjk ha hb x h1 h2 => ?_⟩
  · rw [List.getElem?_set] at hu
    by_cases hij : i = j
    · subst hij
      rw [if_pos rfl] at hu
      split at hu
      · injection hu with hu; subst hu; exact ⟨his, by rw [hS]; exact (h.all i t hi).2⟩
      · cases hu
    · rw [if_neg hij] at hu
      exact ⟨u.st w w' (h.all j u hu).1 ht.size (fun b hb => ht.block b (u.lies w (h.all j u hu).1 b hb) (h.apart j i u t (by omega) hu hi b hb)), (h.all j u hu).2⟩
  · have key : ∀ (j : Nat) a, (L.set i t')[j]? = some a → ∃ a', L[j]? = some a' ∧ a.S = a'.S := by
      intro j a ha
      rw [List.getElem?_set] at ha
      by_cases hij : i = j
      · subst hij
        rw [if_pos rfl] at ha
        split at ha
        · injection ha with ha; subst ha; exact ⟨t, hi, hS⟩
        · cases ha
      · rw [if_neg hij] at ha; exact ⟨a, ha, rfl⟩
    obtain ⟨a', ha', ea⟩ := key j a ha
    obtain ⟨b', hb', eb⟩ := key k b hb
    rw [ea] at h1; rw [eb] at h2
    exact h.apart j k a' b' hjk ha' hb' x h1 h2
/-- Forget the newest but n. -/
theorem Led.drop (h : Led w0 w L) (n : Nat) : Led w0 w (L.drop n) :=
  ⟨h.bl, fun i t hi => h.all (n + i) t (by rwa [List.getElem?_drop] at hi), fun i j a b hij ha hb => h.apart (n + i) (n + j) a b (by omega) (by rwa [List.getElem?_drop] at ha) (by rwa [List.getElem?_drop] at hb)⟩
theorem Owns.st {α : Type} {E : El α} {base : Nat} {e : TypeId} {v : Value} {xs : List α} (h : Owns E w base e v xs) (hk : ∀ b, v.ownBlock = some b → w'.heap[b]? = w.heap[b]?) : Owns E w' base e v xs := by
  refine ⟨h.1, ?_⟩
  rcases h.2 with h0 | ⟨g, cap, cur, hv, hg, hh, r⟩
  · exact .inl h0
  · exact .inr ⟨g, cap, cur, hv, hg, (hk g (by rw [hv]; rfl)).trans hh, r⟩
end
def tBlk (g : Nat) (e : TypeId) (cur : Array Value) : Thing := ⟨fun b => b = g, fun w => Blk w g e cur, fun _ _ h _ hb => (hb g rfl).trans h, fun _ h b e => by subst e; exact h.lt⟩
def tOwns {α : Type} (E : El α) (base : Nat) (e : TypeId) (v : Value) (xs : List α) : Thing :=
  ⟨fun b => v.ownBlock = some b, fun w => Owns E w base e v xs, fun _ _ h _ hb => h.st hb, fun _ h b e => (h.lies b e).2⟩
def tNet (base : Nat) (A : Option Addr) (n c : Nat) (A' : Option Addr) (m d : Nat) (xs : List ByteArray) (fs : List Fib) : Thing :=
  ⟨fun b => (Value.slice A n c).ownBlock = some b ∨ (Value.slice A' m d).ownBlock = some b, fun w => NetOwn w base A n c A' m d xs fs,
    fun _ _ ⟨a, b, c, d, e, f, g, i⟩ _ hb => ⟨a, b, c, d, e, f, g.st (fun b h => hb b (.inl h)), i.st (fun b h => hb b (.inr h))⟩,
    fun _ ⟨_, _, _, _, _, _, g, i⟩ b e => by rcases e with e | e; exact (g.lies b e).2; exact (i.lies b e).2⟩
def tSS (base : Nat) (v : Value) (ss : List Sl) (rows : List (List Int)) : Thing :=
  ⟨fun b => v.ownBlock = some b ∨ ∃ (i : Nat) (s : Sl), ss[i]? = some s ∧ (slV s).ownBlock = some b, fun w => OwnsSS w base v ss rows,
    fun _ _ ⟨a, b, c, d⟩ _ hb => ⟨a.st (fun b h => hb b (.inl h)), b, fun i s r h1 h2 => (c i s r h1 h2).st (fun g h => hb g (.inr ⟨i, s, h1, h⟩)), d⟩,
    fun _ ⟨a, b, c, _⟩ g e => by
      rcases e with e | ⟨i, s, h1, e⟩
      · exact (a.lies g e).2
      · obtain ⟨r, hr⟩ : ∃ r, rows[i]? = some r := ⟨rows[i]'(by rw [← b]; exact (List.getElem?_eq_some_iff.1 h1).1), List.getElem?_eq_getElem _⟩
        exact ((c i s r h1 hr).lies g e).2⟩
section
variable {w0 w w' : World} {L : List Thing}
theorem Led.blk (h : Led w0 w L) (e : TypeId) (cur : Array Value) : Led w0 (w.alloc (.cells cur e)) (tBlk w.heap.size e cur :: L) :=
  h.put (bl_alloc (Below.refl _ _) _) _ (fun b e => by cases e; exact Nat.le_refl _) (Blk.new w e cur)
theorem Led.owns {α : Type} {E : El α} {e : TypeId} {v : Value} {xs : List α} (h : Led w0 w L) (hb : Below w.heap.size w w') (ho : Owns E w' w.heap.size e v xs) : Led w0 w' (tOwns E w.heap.size e v xs :: L) :=
  h.put hb _ (fun b e => (ho.lies b e).1) ho
theorem Led.net {A A' : Option Addr} {n c m d : Nat} {xs : List ByteArray} {fs : List Fib} (h : Led w0 w L) (hb : Below w.heap.size w w') (ho : NetOwn w' w.heap.size A n c A' m d xs fs) : Led w0 w' (tNet w.heap.size A n c A' m d xs fs :: L) :=
  h.put hb _ (fun b e => by obtain ⟨_, _, _, _, _, _, g, i⟩ := ho; rcases e with e | e; exact (g.lies b e).1; exact (i.lies b e).1) ho
theorem OwnsSS.lies {base : Nat} {v : Value} {ss : List Sl} {rows : List (List Int)} (h : OwnsSS w base v ss rows) {b : Nat} (hb : v.ownBlock = some b ∨ ∃ (i : Nat) (s : Sl), ss[i]? = some s ∧ (slV s).ownBlock = some b) : base ≤ b := by
  rcases hb with e | ⟨i, s, h1, e⟩
  · exact (h.1.lies b e).1
  · obtain ⟨r, hr⟩ : ∃ r, rows[i]? = some r := ⟨rows[i]'(by rw [← h.2.1]; exact (List.getElem?_eq_some_iff.1 h1).1), List.getElem?_eq_getElem _⟩
    exact ((h.2.2.1 i s r h1 hr).lies b e).1
theorem Led.ss {v : Value} {ss : List Sl} {rows : List (List Int)} (h : Led w0 w L) (hb : Below w.heap.size w w') (ho : OwnsSS w' w.heap.size v ss rows) : Led w0 w' (tSS w.heap.size v ss rows :: L) :=
  h.put hb _ (fun _ e => ho.lies e) ho
/-- A network and a row of numbers, made by one call. -/
theorem Led.net_owns {A A' : Option Addr} {n c m d : Nat} {xs : List ByteArray} {fs : List Fib} {v : Value} {is : List Int} (h : Led w0 w L) (hb : Below w.heap.size w w') (ho : NetOwn w' w.heap.size A n c A' m d xs fs) (hi : Owns elInt w' w.heap.size 3 v is) :
    Led w0 w' (tOwns elInt w.heap.size 3 v is :: tNet w.heap.size A n c A' m d xs fs :: L) := by
  have h1 := h.net hb ho
  have h2 := h.owns hb hi
  refine ⟨h1.bl, fun i t ht => ?_, fun i j a b hij ha hb2 k k1 k2 => ?_⟩
  · cases i with
    | zero => exact h2.all 0 t ht
    | succ i => exact h1.all i t ht
  · have key : ∀ k, (tOwns elInt w.heap.size 3 v is).S k → ¬ (tNet w.heap.size A n c A' m d xs fs).S k := by
      intro k e1 e2
      obtain ⟨_, _, _, _, _, _, g, i⟩ := ho
      rcases e2 with e2 | e2
      · exact owns_ne g hi (by decide) k e1 e2
      · exact owns_ne i hi (by decide) k e1 e2
    rcases i with _ | _ | i
    · rcases j with _ | _ | j
      · exact hij rfl
      · simp at ha hb2; subst ha; subst hb2; exact key k k1 k2
      · exact h2.apart 0 (j + 1) a b (by omega) ha hb2 k k1 k2
    · rcases j with _ | _ | j
      · simp at ha hb2; subst ha; subst hb2; exact key k k2 k1
      · exact hij rfl
      · exact h1.apart 0 (j + 1) a b (by omega) ha hb2 k k1 k2
    · rcases j with _ | _ | j
      · exact h2.apart (i + 1) 0 a b (by omega) ha hb2 k k1 k2
      · exact h1.apart (i + 1) 0 a b (by omega) ha hb2 k k1 k2
      · exact h1.apart (i + 1) (j + 1) a b (by omega) ha hb2 k k1 k2
end
/-! ### Marks in words of one shape -/
theorem ss_n {w : World} {base n c : Nat} {A : Option Addr} {ss : List Sl} {rows : List (List Int)} (h : OwnsSS w base (.slice A n c) ss rows) : n = rows.length := by
  obtain ⟨A', c', hv, _⟩ := h.1.form
  injection hv with _ e2 _
  rw [e2, h.2.1]
theorem ss_rows {w : World} {base : Nat} {v : Value} {ss : List Sl} {rows : List (List Int)} (h : (tSS base v ss rows).is w) : ss.length = rows.length := (show OwnsSS w base v ss rows from h).2.1
/-! ### Looks into the ledger -/
section
variable {w0 w : World} {L : List Thing}
theorem Led.cell (h : Led w0 w L) (i j : Nat) {g : Nat} {e : TypeId} {l : List Value} {u : Value} (hi : L[i]? = some (tBlk g e l.toArray)) (hj : l[j]? = some u) : w.cell? ⟨g, j, none⟩ = some u := by
  have hb : Blk w g e l.toArray := h.get i hi
  rw [hb.cell]; simpa using hj
theorem Led.frozen (h : Led w0 w L) (i j : Nat) {g : Nat} {e : TypeId} {l : List Value} (hi : L[i]? = some (tBlk g e l.toArray)) : w.frozen? ⟨g, j, none⟩ = false := Blk.frozen (h.get i hi) j
theorem Led.seesI (h : Led w0 w L) (i : Nat) {base c : Nat} {A : Option Addr} {xs : List Int} (hi : L[i]? = some (tOwns elInt base 3 (.slice A xs.length c) xs)) : Sees elInt w w.heap.size A xs.length xs := Owns.sees (h.get i hi)
theorem Led.rt (h : Led w0 w L) (i : Nat) {base c : Nat} {A : Option Addr} {xs : List Int} (hi : L[i]? = some (tOwns elInt base 3 (.slice A xs.length c) xs)) (hk : xs.length ≤ 1048576) : RtIs w A xs.length c xs := by
  have ho : Owns elInt w base _ _ xs := h.get i hi
  obtain ⟨A', c', hv, h1, _, _⟩ := ho.form
  injection hv with _ _ e3
  exact ⟨⟨by omega, hk⟩, ho.sees⟩
theorem Led.netIs (h : Led w0 w L) (i : Nat) {base n c m d : Nat} {A A' : Option Addr} {xs : List ByteArray} {fs : List Fib} (hi : L[i]? = some (tNet base A n c A' m d xs fs)) (hn : n ≤ 1048576) (hm : m ≤ 1048576) (hx : ∀ x ∈ xs, x.size ≤ maxLen) : NetIs w A n c A' m d xs fs :=
  NetOwn.is (h.get i hi) hn hm hx
/-- A block made by the walk, under the walk's name for its address. -/
theorem Led.blk_ (h : Led w0 w L) (g : Nat) (hg : g = w.heap.size) (e : TypeId) (cur : Array Value) : Led w0 (w.alloc (.cells cur e)) (tBlk g e cur :: L) := by subst hg; exact h.blk e cur
end
end Go.Proofs.YtjfafhehpfjofaaGreat
/- The ledger in a function's own walk: appends, stores, new rows. Conditions: at most 1099511627776 elements. -/
namespace Go.Proofs.YtjfafhehpfjofaaGreat
open Go.RowKit
section
variable {w0 w w' : World} {L : List Thing}
/-- One thing grows: into its own blocks or into new ones. -/
theorem Led.regrow (h : Led w0 w L) (i : Nat) {t t' : Thing} (hi : L[i]? = some t) (ht : Touch t.S w w') (hS : ∀ b, t'.S b → t.S b ∨ w.heap.size ≤ b) (his : t'.is w') : Led w0 w' (L.set i t') := by
  refine ⟨h.bl.trans (ht.below (B := w0.heap.size) (h.all i t hi).2 h.bl.size), fun j u hu => ?_, fun j k a b hjk ha hb x h1 h2 => ?_⟩
  · rw [List.getElem?_set] at hu
    by_cases hij : i = j
    · subst hij
      rw [if_pos rfl] at hu
      split at hu
      · injection hu with hu; subst hu
        refine ⟨his, fun b hb => ?_⟩
        rcases hS b hb with h1 | h1
        · exact (h.all i t hi).2 b h1
        · exact Nat.le_trans h.bl.size h1
      · cases hu
    · rw [if_neg hij] at hu
      exact ⟨u.st w w' (h.all j u hu).1 ht.size (fun b hb => ht.block b (u.lies w (h.all j u hu).1 b hb) (h.apart j i u t (by omega) hu hi b hb)), (h.all j u hu).2⟩
  · have key : ∀ (j : Nat) a, (L.set i t')[j]? = some a → (j = i ∧ a = t') ∨ (j ≠ i ∧ L[j]? = some a) := by
      intro j a ha
      rw [List.getElem?_set] at ha
      by_cases hij : i = j
      · subst hij
        rw [if_pos rfl] at ha
        split at ha
        · injection ha with ha; exact .inl ⟨rfl, ha.symm⟩
        · cases ha
      · rw [if_neg hij] at ha; exact .inr ⟨fun e => hij e.symm, ha⟩
    rcases key j a ha with ⟨rfl, rfl⟩ | ⟨hji, ha'⟩
    · rcases key k b hb with ⟨rfl, rfl⟩ | ⟨hki, hb'⟩
      · exact hjk rfl
      · rcases hS x h1 with h3 | h3
        · exact h.apart j k t b hjk hi hb' x h3 h2
        · have := b.lies w (h.all k b hb').1 x h2; omega
    · rcases key k b hb with ⟨rfl, rfl⟩ | ⟨hki, hb'⟩
      · rcases hS x h2 with h3 | h3
        · exact h.apart j k a t hjk ha' hi x h1 h3
        · have := a.lies w (h.all j a ha').1 x h1; omega
      · exact h.apart j k a b hjk ha' hb' x h1 h2
/-- A store into a block of the ledger. -/
theorem Led.set (h : Led w0 w L) (i : Nat) {g : Nat} {e : TypeId} {l : List Value} (hi : L[i]? = some (tBlk g e l.toArray)) (j : Nat) (u : Value) : Led w0 (w.setCell ⟨g, j, none⟩ u) (L.set i (tBlk g e (l.set j u).toArray)) :=
  h.touch i hi rfl (Touch.set (S := fun b => b = g) w (p := ⟨g, j, none⟩) rfl u) (by
    have hb : Blk w g e l.toArray := h.get i hi
    have := hb.set j u
    have e1 : l.toArray.setIfInBounds j u = (l.set j u).toArray := by simp
    rw [e1] at this
    exact this)
/-- A row made by a call. -/
theorem Led.owns_ {α : Type} {E : El α} {e : TypeId} {v : Value} {xs : List α} {base b0 : Nat} (h : Led w0 w L) (hb : Below w.heap.size w w') (ho : Owns E w' base e v xs) (hB : w.heap.size ≤ base) (h0 : b0 ≤ base) : Led w0 w' (tOwns E b0 e v xs :: L) :=
  h.put hb (tOwns E b0 e v xs) (fun b e => Nat.le_trans hB (ho.lies b e).1) (ho.base h0)
/-- A row of no elements, in a block of its own. -/
theorem Led.empty {α : Type} (h : Led w0 w L) (E : El α) (e : TypeId) (g : Nat) (hg : g = w.heap.size) (b0 : Nat) (h0 : b0 ≤ g) : Led w0 (w.alloc (.cells #[] e)) (tOwns E b0 e (.slice (some ⟨g, 0, none⟩) 0 0) [] :: L) := by
  subst hg
  exact h.owns_ (bl_alloc (Below.refl _ _) _) (Owns.of_blk (n := 0) (cap := 0) (cur := #[]) (Blk.new w e #[]) (Nat.le_refl _) rfl (Nat.le_refl _) (by simp) (by decide) (Filled.zero _ _ _)) (Nat.le_refl _) h0
theorem filled_single {α : Type} (E : El α) (x : α) : Filled E (E.cells x).toArray [x] 1 := by
  intro j y hj hy i u hu
  obtain rfl : j = 0 := by omega
  simp at hy; subst hy
  simpa using hu
/-- A row of one element, in a block of its own. -/
theorem Led.single {α : Type} (h : Led w0 w L) (E : El α) (x : α) (e : TypeId) (g : Nat) (hg : g = w.heap.size) (b0 : Nat) (h0 : b0 ≤ g) : Led w0 (w.alloc (.cells (E.cells x).toArray e)) (tOwns E b0 e (.slice (some ⟨g, 0, none⟩) 1 1) [x] :: L) := by
  subst hg
  exact h.owns_ (bl_alloc (Below.refl _ _) _) (Owns.of_blk (n := 1) (cap := 1) (cur := (E.cells x).toArray) (Blk.new w e _) (Nat.le_refl _) rfl (Nat.le_refl _) (by simp [E.len]) (by decide) (filled_single E x)) (Nat.le_refl _) h0
/-- The nil slice. -/
theorem Led.nilS {α : Type} (h : Led w0 w L) (E : El α) (e : TypeId) (b0 : Nat) : Led w0 w (tOwns E b0 e (.slice none 0 0) [] :: L) :=
  h.put (Below.refl _ _) (tOwns E b0 e (.slice none 0 0) []) (fun b e => by cases e) (World.ownsRow_nil _ _ _ _)
theorem Led.sees {α : Type} {E : El α} (h : Led w0 w L) (i : Nat) {base c n : Nat} {e : TypeId} {A : Option Addr} {xs : List α} (hi : L[i]? = some (tOwns E base e (.slice A n c) xs)) (hn : n = xs.length) : Sees E w w.heap.size A n xs := by
  subst hn
  exact Owns.sees (show Owns E w base e (.slice A xs.length c) xs from h.get i hi)
theorem Led.form {α : Type} {E : El α} (h : Led w0 w L) (i : Nat) {base : Nat} {e : TypeId} {v : Value} {xs : List α} (hi : L[i]? = some (tOwns E base e v xs)) : ∃ A c, v = .slice A xs.length c ∧ xs.length ≤ c := by
  obtain ⟨A, c, h1, h2, _⟩ := Owns.form (show Owns E w base e v xs from h.get i hi)
  exact ⟨A, c, h1, h2⟩
theorem Led.own {α : Type} {E : El α} (h : Led w0 w L) (i : Nat) {base : Nat} {e : TypeId} {v : Value} {xs : List α} (hi : L[i]? = some (tOwns E base e v xs)) : Owns E w base e v xs := h.get i hi
end
/-- A new block shows its one element. -/
theorem sees_new {α : Type} (E : El α) (w : World) (x : α) (e : TypeId) (g : Nat) (hg : g = w.heap.size) : Sees E (w.alloc (.cells (E.cells x).toArray e)) (w.heap.size + 1) (some ⟨g, 0, none⟩) 1 [x] := by
  subst hg
  refine ⟨rfl, .inr ⟨w.heap.size, 0, rfl, Nat.lt_succ_self _, fun k y hy j u hu => ?_⟩⟩
  have hb : Blk (w.alloc (.cells (E.cells x).toArray e)) w.heap.size e (E.cells x).toArray := Blk.new _ _ _
  have hk : k = 0 := by have := (List.getElem?_eq_some_iff.1 hy).1; simp at this; omega
  subst hk
  simp at hy; subst hy
  rw [hb.cell]; simpa using hu
section
variable {P : Program}
/-- append onto a row of the call's own, of whatever is seen. -/
theorem run_append_all {α : Type} {E : El α} {w : World} {base : Nat} {e t ty : TypeId} {v : Value} {xs ys : List α} {A : Option Addr} {n c B : Nat} {i : TypeInfo} {z : Value} (ht : P.underlying t = some (.slice e)) (hi : P.info? e = some i) (hz0 : i.zero = some z) (hz1 : i.size = E.sz)
    (hzs : z.cells.size = E.sz) (ho : Owns E w base e v xs) (hy : Sees E w B A n ys) (h63 : xs.length + n ≤ 1099511627776) (hby : i.bytes ≤ 64) (hbase : base ≤ w.heap.size) :
    ∃ A' c' w', (Builtin.append_ #[t, t] ty #[v, .slice A n c]).run P w = .ok (.slice A' (xs.length + n) c') w' ∧ Owns E w' base e (.slice A' (xs.length + n) c') (xs ++ ys) ∧ w.grownBy w' v.ownBlock ∧
      ∀ g, (Value.slice A' (xs.length + n) c').ownBlock = some g → v.ownBlock = some g ∨ g = w.heap.size := by
  have hyl := hy.len
  rcases A with _ | ad
  · have hn : n = 0 := by
      rcases hy.2 with h | ⟨b, o, h, _⟩
      · exact h
      · cases h
    subst hn
    have hys : ys = [] := List.eq_nil_of_length_eq_zero hyl
    subst hys
    obtain ⟨A1, c1, rfl, hc1, _, _⟩ := ho.form
    refine ⟨A1, c1, w, ?_, by simpa using ho, ⟨rfl, rfl, rfl, Nat.le_refl _, fun _ _ _ => rfl⟩, fun g hg => .inl hg⟩
    have h1 := run_append_nothing (P := P) w t t ty e i ht hi A1 xs.length c1 hc1 (.slice none 0 c) (Src.ofNil w ht c)
    simpa using h1
  · have hcells : ∀ j u, (ys.flatMap E.cells)[j]? = some u → w.cell? (ad.add j) = some u := by
      intro j u hj
      rcases hy.2 with h | ⟨b, o, h, _, hc⟩
      · subst h
        rw [List.eq_nil_of_length_eq_zero hyl] at hj; simp at hj
      · injection h with h; subst h
        have hpos := E.pos
        have hjl : j < ys.length * E.sz := by rw [← flat_len]; exact (List.getElem?_eq_some_iff.1 hj).1
        have hk : j / E.sz < ys.length := (Nat.div_lt_iff_lt_mul hpos).2 hjl
        obtain ⟨y, hyk⟩ : ∃ y, ys[j / E.sz]? = some y := ⟨ys[j / E.sz], List.getElem?_eq_getElem hk⟩
        have hm : j % E.sz < (E.cells y).length := by rw [E.len]; exact Nat.mod_lt _ hpos
        have h1 := hc (j / E.sz) y hyk (j % E.sz) _ (List.getElem?_eq_getElem hm)
        have h2 := flat_get E ys (j / E.sz) y hyk (j % E.sz) _ (List.getElem?_eq_getElem hm)
        have e1 : j / E.sz * E.sz + j % E.sz = j := by rw [Nat.mul_comm]; exact Nat.div_add_mod j E.sz
        rw [e1] at h2
        rw [hj] at h2
        injection h2 with h2
        rw [← h2] at h1
        have e2 : o + j / E.sz * E.sz + j % E.sz = o + j := by omega
        rw [e2] at h1
        rw [← h1]
        unfold Addr.add
        split
        · rename_i h0; rw [h0, Nat.add_zero]
        · rfl
    have h1c : ∀ u ∈ ys.flatMap E.cells, u.oneCell' = true := fun u hu => by
      obtain ⟨y, _, h2⟩ := List.mem_flatMap.1 hu
      exact E.one y u h2
    obtain ⟨v', w', hr, h2, h3, _, h5⟩ := run_append_own_at (P := P) w base t ty e i z E.sz i.bytes ht hi hz0 hz1 rfl hzs E.pos v xs.length (xs.flatMap E.cells) ho ad n c (ys.flatMap E.cells) (by rw [flat_len, hyl]) hcells h1c (by unfold maxLen; omega)
      (by have : (xs.length + n) * i.bytes ≤ 1099511627776 * 64 := Nat.mul_le_mul h63 hby; omega) hbase
    have ho' : Owns E w' base e v' (xs ++ ys) := by
      unfold Owns
      rw [List.length_append, hyl, List.flatMap_append]
      exact h2
    obtain ⟨A', c', hv, _⟩ := ho'.form
    rw [List.length_append, hyl] at hv
    subst hv
    refine ⟨A', c', w', hr, ho', h3, fun g hg => ?_⟩
    rcases h5 with h5 | h5
    · exact .inl (by rw [← h5]; exact hg)
    · exact .inr (by rw [h5] at hg; injection hg with hg; exact hg.symm)
variable {w0 w : World} {L : List Thing} {ops : Array Oper} {rest : List Oper} {o : Oper} {a : Act} {Q : Exit → Act → World → Prop}
theorem wp_append_led {α : Type} {E : El α} {K : Act → World → Prop} (s x : Operand) (t : TypeId) (ho : o.op = .call { callee := .builtin .append, args := #[s, x], argTypes := #[t, t] }) (hS : Led w0 w L) (j : Nat) {base : Nat} {e : TypeId} {v : Value} {xs ys : List α}
    (hj : L[j]? = some (tOwns E base e v xs)) {A : Option Addr} {n c B : Nat} {i : TypeInfo} {z : Value} (ht : P.underlying t = some (.slice e)) (hi : P.info? e = some i) (hz0 : i.zero = some z) (hz1 : i.size = E.sz) (hby : i.bytes ≤ 64) (hzs : z.cells.size = E.sz)
    (hs : a.eval s = v) (hx : a.eval x = .slice A n c) (hy : Sees E w B A n ys) (h63 : xs.length + n ≤ 1099511627776) (hbase : base ≤ w.heap.size)
    (h : ∀ A' c' w', Led w0 w' (L.set j (tOwns E base e (.slice A' (xs.length + n) c') (xs ++ ys))) → K (a.put o.dst (.slice A' (xs.length + n) c')) w') : o.wp P a w K Q := by
  obtain ⟨A', c', w', hr, h2, h3, h4⟩ := run_append_all (P := P) (ty := o.type) (c := c) ht hi hz0 hz1 hzs (hS.own j hj) hy h63 hby hbase
  unfold Oper.wp execOp
  simp only [ho, resolve, invoke, builtin, Sem.run_bind, Sem.run_pure, Result.andThen_ok, List.map_toArray, List.map_cons, List.map_nil, hs, hx, hr]
  refine h A' c' w' (hS.regrow j hj ⟨h3.os, h3.tape, h3.output, h3.size, fun k hk hn => h3.block k hk (fun e => hn e.symm)⟩ (fun b hb => ?_) h2)
  rcases h4 b hb with h5 | h5
  · exact .inl h5
  · exact .inr (by omega)
theorem wpList_append_led {α : Type} {E : El α} (hgd : o.guard = none) (s x : Operand) (t : TypeId) (ho : o.op = .call { callee := .builtin .append, args := #[s, x], argTypes := #[t, t] }) (hS : Led w0 w L) (j : Nat) {base : Nat} {e : TypeId} {v : Value} {xs ys : List α}
    (hj : L[j]? = some (tOwns E base e v xs)) {A : Option Addr} {n c B : Nat} {i : TypeInfo} {z : Value} (ht : P.underlying t = some (.slice e)) (hi : P.info? e = some i) (hz0 : i.zero = some z) (hz1 : i.size = E.sz) (hby : i.bytes ≤ 64) (hzs : z.cells.size = E.sz)
    (hs : a.eval s = v) (hx : a.eval x = .slice A n c) (hy : Sees E w B A n ys) (h63 : xs.length + n ≤ 1099511627776) (hbase : base ≤ w.heap.size)
    (h : ∀ A' c' w', Led w0 w' (L.set j (tOwns E base e (.slice A' (xs.length + n) c') (xs ++ ys))) → wpList P ops Q rest (a.put o.dst (.slice A' (xs.length + n) c')) w') : wpList P ops Q (o :: rest) a w :=
  wpList_plain hgd fun _ hK => wp_append_led s x t ho hS j hj ht hi hz0 hz1 hby hzs hs hx hy h63 hbase fun A' c' w' h2 => hK _ _ (h A' c' w' h2)
theorem step_append_led {α : Type} {E : El α} {K : Act → World → Prop} {F : Prop} (hgd : o.guard = none) (s x : Operand) (t : TypeId) (ho : o.op = .call { callee := .builtin .append, args := #[s, x], argTypes := #[t, t] }) (hS : Led w0 w L) (j : Nat) {base : Nat} {e : TypeId} {v : Value} {xs ys : List α}
    (hj : L[j]? = some (tOwns E base e v xs)) {A : Option Addr} {n c B : Nat} {i : TypeInfo} {z : Value} (ht : P.underlying t = some (.slice e)) (hi : P.info? e = some i) (hz0 : i.zero = some z) (hz1 : i.size = E.sz) (hby : i.bytes ≤ 64) (hzs : z.cells.size = E.sz)
    (hs : a.eval s = v) (hx : a.eval x = .slice A n c) (hy : Sees E w B A n ys) (h63 : xs.length + n ≤ 1099511627776) (hbase : base ≤ w.heap.size)
    (h : ∀ A' c' w', Led w0 w' (L.set j (tOwns E base e (.slice A' (xs.length + n) c') (xs ++ ys))) → K (a.put o.dst (.slice A' (xs.length + n) c')) w') : if Region.wanted o (yielded ops a.tmps) = true then Oper.wp P o a w K Q else F := by
  have hw : Region.wanted o (yielded ops a.tmps) = true := by simp [Region.wanted, hgd]
  rw [if_pos hw]
  exact wp_append_led s x t ho hS j hj ht hi hz0 hz1 hby hzs hs hx hy h63 hbase h
end
end Go.Proofs.YtjfafhehpfjofaaGreat
