/- Lemmas and walks that the claim rests on, laid together. Conditions: none. -/
import Derived.Test.YtfepilpllfiegaaZc731a5b1582e
import Derived.Test.YtfepilpllfiegaaRows
import Derived.Test.YtfepilpllfiegaaZ5a601e525fb9
/- The reference's looks at a fiber, walked. Conditions: none. -/
namespace Go.Proofs.Ytfepilpllfiegaa
open Go.RowKit
theorem fibB_eq2 (n : Nat) (f : Fib) : fibB n f = (inB 0 ((n : Int) - 1) f.a && inB (f.a + 1) ((n : Int) - 1) f.b && inB 1 5000 f.len && inB 0 9 f.risk) := by
  unfold fibB inB; rw [Bool.eq_iff_iff]; simp; omega
set_option maxHeartbeats 1000000 in
set_option maxRecDepth 100000 in
theorem l2Fiber_any (f : Fib) (n : Nat) (w : World) (hn : n ≤ 1048576) :
    Calls Try.prog 113 #[fibV f, .int .i64 n] w fun e w' => e = .returned (.bool (fibB n f)) ∧ Below w.heap.size w w' := by
  obtain ⟨a, b, l, r⟩ := f
  rw [fibB_eq2]
  unfold fibV
  by_cases h1 : inB 0 ((n : Int) - 1) a = true
  · have h1' := h1
    unfold inB at h1'
    simp only [decide_eq_true_eq] at h1'
    obtain ⟨h2, h3⟩ := h1'
    have e1 : IntKind.i64.wrap ((n : Int) - 1) = (n : Int) - 1 := IntWalk.i64_in _ (by omega)
    have e2 : IntKind.i64.wrap (a + 1) = a + 1 := IntWalk.i64_in _ (by omega)
    cases h4 : inB (a + 1) ((n : Int) - 1) b <;> cases h5 : inB 1 5000 l <;> cases h6 : inB 0 9 r
    all_goals
      go_enter Try.func113, Try.ntmps113
      go_wp2_with (go_at_call 78; refine (l1In_any _ _ _ _).mono ?_; rintro e w' ⟨rfl, rfl⟩)
      go_ret
      exact ⟨ret_bool (by simp [*]), bl_alloc (Below.refl _ _) _⟩
  · have h1' : inB 0 ((n : Int) - 1) a = false := by simpa using h1
    clear h1
    go_enter Try.func113, Try.ntmps113
    go_wp2_with (go_at_call 78; refine (l1In_any _ _ _ _).mono ?_; rintro e w' ⟨rfl, rfl⟩)
    go_ret
    exact ⟨ret_bool (by simp [*]), bl_alloc (Below.refl _ _) _⟩
/-- A fiber whose numbers are small. -/
def smallF (f : Fib) : Prop := (0 ≤ f.a ∧ f.a ≤ 1048576) ∧ (0 ≤ f.b ∧ f.b ≤ 1048576) ∧ (0 ≤ f.len ∧ f.len ≤ 1048576) ∧ (0 ≤ f.risk ∧ f.risk ≤ 1048576)
theorem smallF_of {n : Nat} {f : Fib} (hn : n ≤ 1048576) (h : fibB n f = true) : smallF f := by unfold fibB at h; unfold smallF; simp at h; omega
set_option maxHeartbeats 1000000 in
set_option maxRecDepth 100000 in
theorem l2Before_any (f g : Fib) (w : World) (hf : smallF f) (hg : smallF g) :
    Calls Try.prog 114 #[fibV f, fibV g] w fun e w' => e = .returned (.int .i64 (befF f g)) ∧ Below w.heap.size w w' := by
  obtain ⟨a, b, l, r⟩ := f
  obtain ⟨a', b', l', r'⟩ := g
  obtain ⟨⟨h1, h2⟩, ⟨h3, h4⟩, ⟨h5, h6⟩, ⟨h7, h8⟩⟩ := hf
  obtain ⟨⟨k1, k2⟩, ⟨k3, k4⟩, ⟨k5, k6⟩, ⟨k7, k8⟩⟩ := hg
  simp only at h1 h2 h3 h4 h5 h6 h7 h8 k1 k2 k3 k4 k5 k6 k7 k8
  unfold fibV befF
  simp only
  by_cases e1 : a = a'
  · have e1' : (a != a') = false := by simp [e1]
    rw [if_pos e1]; clear e1
    by_cases e2 : b = b'
    · have e2' : (b != b') = false := by simp [e2]
      rw [if_pos e2]; clear e2
      by_cases e3 : l = l'
      · have e3' : (l != l') = false := by simp [e3]
        rw [if_pos e3]; clear e3
        go_enter Try.func114, Try.ntmps114
        go_wp2
        go_ret
        exact ⟨rfl, bl_alloc (bl_alloc (Below.refl _ _) _) _⟩
      · have e3' : (l != l') = true := by simp [e3]
        rw [if_neg e3]; clear e3
        go_enter Try.func114, Try.ntmps114
        go_wp2
        go_ret
        exact ⟨rfl, bl_alloc (bl_alloc (Below.refl _ _) _) _⟩
    · have e2' : (b != b') = true := by simp [e2]
      rw [if_neg e2]; clear e2
      go_enter Try.func114, Try.ntmps114
      go_wp2
      go_ret
      exact ⟨rfl, bl_alloc (bl_alloc (Below.refl _ _) _) _⟩
  · have e1' : (a != a') = true := by simp [e1]
    rw [if_neg e1]; clear e1
    go_enter Try.func114, Try.ntmps114
    go_wp2
    go_ret
    exact ⟨rfl, bl_alloc (bl_alloc (Below.refl _ _) _) _⟩
end Go.Proofs.Ytfepilpllfiegaa
/- The reference's l2Find, walked. Conditions: none. -/
namespace Go.Proofs.Ytfepilpllfiegaa
open Go.RowKit
theorem l2Find_any {B n c : Nat} {A : Option Addr} {xs : List ByteArray} (s : ByteArray) (w : World) (hA : Sees elStr w B A n xs) (hn : n ≤ maxLen) :
    Calls Try.prog 133 #[.slice A n c, .string s] w fun e w' => e = .returned (.int .i64 (findI xs s)) ∧ w = w' := by
  unfold maxLen at hn
  go_enter Try.func133, Try.ntmps133
  go_wp2
  go_loop [5] (fun i => ∃ k : Nat, k ≤ n ∧ i = .int .i64 k ∧ Hid (noneTo xs s k)) (fun i => n - (intOf i).toNat)
  case atStart => exact ⟨0, Nat.zero_le _, rfl, noneTo_zero⟩
  case round =>
    obtain ⟨k, hk, rfl, hno⟩ := hrel
    by_cases hlt : k < n
    · obtain ⟨b, o, rfl, _, hx⟩ := hA.at_ hlt
      obtain ⟨x, hxk⟩ : ∃ x, xs[k]? = some x := ⟨xs[k]'(by rw [hA.len]; exact hlt), List.getElem?_eq_getElem _⟩
      have hc := hx k x hxk 0 _ rfl
      simp only [elStr, Nat.mul_one, Nat.add_zero] at hc
      clear hx
      by_cases heq : x = s
      · subst heq
        have HF := hid (findI_at hno hxk)
        clear hxk
        go_wp2
        go_ret
        exact ⟨by rw [HF.out]; rfl, rfl⟩
      · have hne := str_ne heq
        have HN := hid (noneTo_succ hno hxk heq)
        clear hxk hno
        go_wp2
        go_round
        case rel => exact ⟨k + 1, by omega, by go_num, HN⟩
        case measure => simp [intOf]; omega
    · have HF : Hid (findI xs s = -1) := findI_none hA.len (by obtain rfl : k = n := (by omega); exact hno.out)
      go_wp2
      go_ret
      exact ⟨by rw [HF.out]; rfl, rfl⟩
end Go.Proofs.Ytfepilpllfiegaa
/- The reference's look at a name, walked: it answers as nameB. Conditions: none. -/
namespace Go.Proofs.Ytfepilpllfiegaa
open Go.RowKit
set_option maxRecDepth 100000 in
theorem l2Sign_any (c : UInt8) (w : World) : Calls Try.prog 158 #[.int .u8 c.toNat] w fun e w' => e = .returned (.bool (letB c || digB c)) ∧ w = w' := by
  have hb : (c.toNat : Int) < 256 := by have := c.toNat_lt; omega
  rcases byte_cases c.toNat with h1 | ⟨h1, h2⟩ | ⟨h1, h2⟩ | ⟨h1, h2⟩ | h1
  all_goals
    go_enter Try.func158, Try.ntmps158
    go_wp2
    go_ret
    exact ⟨ret_bool (by unfold letB digB; rw [Bool.eq_iff_iff]; simp; omega), rfl⟩
/-- Behind the first byte's look, the rest of the reference's look. -/
theorem nameB_first {l : List UInt8} {c : UInt8} (hc : l[0]? = some c) (h : letB c = false) : nameB l = false := nameB_no hc (by unfold okAt; simp [h])
theorem nameB_long {l : List UInt8} (h : inB 1 8 l.length = false) : nameB l = false := by
  unfold nameB inB at *
  rw [Bool.and_eq_false_iff]
  refine .inl ?_
  rw [← h]; rw [Bool.eq_iff_iff]; simp only [decide_eq_true_eq]; omega
def sgTo (l : List UInt8) (k : Nat) : Prop := ∀ j c, j < k → l[j]? = some c → (letB c || digB c) = true
theorem sgTo_succ {l : List UInt8} {k : Nat} {c : UInt8} (h : sgTo l k) (hc : l[k]? = some c) (ho : (letB c || digB c) = true) : sgTo l (k + 1) := by
  intro j d hj hd
  rcases Nat.lt_succ_iff_lt_or_eq.1 hj with hlt | rfl
  · exact h j d hlt hd
  · rw [hc] at hd; injection hd with hd; subst hd; exact ho
theorem nameB_sg {l : List UInt8} {c0 : UInt8} (h : sgTo l l.length) (hc : l[0]? = some c0) (h0 : letB c0 = true) (hl : inB 1 8 l.length = true) : nameB l = true := by
  rw [nameB_yes, hl]
  intro j c hj hjc
  have := h j c hj hjc
  unfold okAt
  rcases Nat.eq_zero_or_pos j with rfl | hp
  · rw [hc] at hjc; injection hjc with hjc; subst hjc; simp [h0]
  · have : (j == 0) = false := by simp; omega
    rw [this]; simpa using h j c hj hjc
theorem nameB_bad {l : List UInt8} {k : Nat} {c : UInt8} (hc : l[k]? = some c) (h : (letB c || digB c) = false) : nameB l = false := by
  rw [Bool.or_eq_false_iff] at h
  exact nameB_no hc (by unfold okAt; simp [h.1, h.2])
set_option maxHeartbeats 1000000 in
set_option maxRecDepth 100000 in
theorem l2Name_any (s : ByteArray) (w : World) (hs : s.size ≤ maxLen) :
    Calls Try.prog 132 #[.string s] w fun e w' => e = .returned (.bool (nameB s.data.toList)) ∧ w = w' := by
  unfold maxLen at hs
  by_cases hin : inB 1 8 s.size = true
  · have hin' := hin
    unfold inB at hin'
    simp only [decide_eq_true_eq] at hin'
    have h0 : 0 < s.size := by omega
    have hg := get_list s 0 h0
    generalize hc : s[0] = c at hg
    have hget : s[0] = c := hc
    clear hc
    have hb : (c.toNat : Int) < 256 := by have := c.toNat_lt; omega
    by_cases hlet : letB c = true
    · have hl2 := hlet
      unfold letB at hl2
      simp only [decide_eq_true_eq] at hl2
      obtain ⟨hl3, hl4⟩ := hl2
      have hl5 : decide ((c.toNat : Int) < 97) = false := by simp; omega
      have hl6 : decide ((122 : Int) < (c.toNat : Int)) = false := by simp; omega
      have HG := hid hg
      have HL := hid hlet
      have HI := hid hin
      clear hg hlet
      go_enter Try.func132, Try.ntmps132
      go_wp2_with (go_at_call 78; refine (l1In_any _ _ _ _).mono ?_; rintro e w' ⟨rfl, rfl⟩)
      clear hget hl5 hl6 hin
      go_loop [3] (fun i => ∃ k : Nat, k ≤ s.size ∧ i = .int .i64 k ∧ Hid (sgTo s.data.toList k)) (fun i => s.size - (intOf i).toNat)
      case atStart => exact ⟨0, Nat.zero_le _, rfl, fun j c hj => by omega⟩
      case round =>
        obtain ⟨k, hk, rfl, hok⟩ := hrel
        by_cases hlt : k < s.size
        · have hgk := get_list s k hlt
          generalize hc : s[k] = d at hgk
          have hget : s[k] = d := hc
          clear hc
          by_cases hd : (letB d || digB d) = true
          · have HY : Hid (sgTo s.data.toList (k + 1)) := sgTo_succ hok hgk hd
            clear hgk
            go_wp2_with (go_at_call 158; refine (l2Sign_any d _).mono ?_; rintro e w' ⟨rfl, rfl⟩)
            go_round
            case rel => exact ⟨k + 1, by omega, by go_num, HY⟩
            case measure => simp [intOf]; omega
          · have hd' : (letB d || digB d) = false := by simpa using hd
            have HN : Hid (nameB s.data.toList = false) := nameB_bad hgk hd'
            clear hgk hd
            go_wp2_with (go_at_call 158; refine (l2Sign_any d _).mono ?_; rintro e w' ⟨rfl, rfl⟩)
            go_ret
            exact ⟨ret_bool HN.out.symm, rfl⟩
        · have HY : Hid (nameB s.data.toList = true) := nameB_sg (by rw [size_list]; obtain rfl : k = s.size := (by omega); exact hok.out) HG.out HL.out (by rw [size_list]; exact HI.out)
          go_wp2
          go_ret
          exact ⟨ret_bool HY.out.symm, rfl⟩
    · have hlet' : letB c = false := by simpa using hlet
      have HN : Hid (nameB s.data.toList = false) := nameB_first hg hlet'
      clear hg hlet
      have hlt : c.toNat < 97 ∨ 122 < c.toNat := by
        unfold letB at hlet'; simp at hlet'; omega
      clear hlet'
      rcases hlt with h1 | h1
      · have hl5 : decide ((c.toNat : Int) < 97) = true := by simp; omega
        go_enter Try.func132, Try.ntmps132
        go_wp2_with (go_at_call 78; refine (l1In_any _ _ _ _).mono ?_; rintro e w' ⟨rfl, rfl⟩)
        go_ret
        exact ⟨ret_bool HN.out.symm, rfl⟩
      · have hl5 : decide ((c.toNat : Int) < 97) = false := by simp; omega
        have hl6 : decide ((122 : Int) < (c.toNat : Int)) = true := by simp; omega
        go_enter Try.func132, Try.ntmps132
        go_wp2_with (go_at_call 78; refine (l1In_any _ _ _ _).mono ?_; rintro e w' ⟨rfl, rfl⟩)
        go_ret
        exact ⟨ret_bool HN.out.symm, rfl⟩
  · have hin' : inB 1 8 s.size = false := by simpa using hin
    have HN : Hid (nameB s.data.toList = false) := nameB_long (by rw [size_list]; exact hin')
    clear hin
    go_enter Try.func132, Try.ntmps132
    go_wp2_with (go_at_call 78; refine (l1In_any _ _ _ _).mono ?_; rintro e w' ⟨rfl, rfl⟩)
    go_ret
    exact ⟨ret_bool HN.out.symm, rfl⟩
end Go.Proofs.Ytfepilpllfiegaa
/- The reference's l2Good, walked: it returns goodB. Conditions: none. -/
namespace Go.Proofs.Ytfepilpllfiegaa
open Go.RowKit
theorem find_take {xs : List ByteArray} {k : Nat} {x : ByteArray} (hx : xs[k]? = some x) : hasB (xs.take k) x = true ↔ findI xs x ≠ (k : Int) := by
  rw [hasB_iff]
  constructor
  · intro h e
    obtain ⟨j, hj, hj2⟩ := List.mem_iff_getElem.1 h
    have hjk : j < k := by rw [List.length_take] at hj; omega
    have hjl : j < xs.length := by rw [List.length_take] at hj; omega
    have hxj : xs[j]? = some x := by rw [List.getElem?_eq_getElem hjl, ← hj2, List.getElem_take]
    -- the first place of x lies at j or before
    have key : ∀ (l : List ByteArray) (k0 j : Nat), l[j]? = some x → findFrom x l k0 ≤ ((k0 + j : Nat) : Int) := by
      intro l
      induction l with
      | nil => intro k0 j h; simp at h
      | cons y l ih =>
        intro k0 j h
        unfold findFrom
        by_cases hy : y = x
        · rw [if_pos hy]; omega
        · rw [if_neg hy]
          cases j with
          | zero => simp at h; exact absurd h hy
          | succ j => have := ih (k0 + 1) j (by simpa using h); omega
    have := key xs 0 j hxj
    unfold findI at e
    omega
  · intro h
    refine Classical.byContradiction fun hn => h ?_
    refine findI_at ?_ hx
    intro j hj hxj
    refine hn (List.mem_iff_getElem.2 ⟨j, ?_, ?_⟩)
    · rw [List.length_take]; have := (List.getElem?_eq_some_iff.1 hx).1; omega
    · obtain ⟨h1, h2⟩ := List.getElem?_eq_some_iff.1 hxj
      rw [List.getElem_take]; exact h2
theorem goodB_all {xs : List ByteArray} {fs : List Fib} (h1 : decide (2 ≤ xs.length ∧ xs.length ≤ 8) = true) (h2 : decide (fs.length ≤ 14) = true) (h3 : allTo (nameAt xs) xs.length) (h4 : allTo (fibAt xs.length fs) fs.length) : goodB xs fs = true := by
  rw [goodB_rest h3 h4, h1, h2]; rfl
set_option maxHeartbeats 2000000 in
set_option maxRecDepth 100000 in
theorem l2Good_any {B n c m d : Nat} {A A' : Option Addr} {xs : List ByteArray} {fs : List Fib} (w : World) (hA : Sees elStr w B A n xs) (hF : Sees elFib w B A' m fs) (hB : B ≤ w.heap.size) (hn : n ≤ 1048576) (hm : m ≤ 1048576)
    (hx : ∀ x ∈ xs, x.size ≤ maxLen) :
    Calls Try.prog 67 #[.agg #[.slice A n c, .slice A' m d]] w fun e w' => e = .returned (.bool (goodB xs fs)) ∧ Below w.heap.size w w' := by
  have hlx := hA.len
  have hlf := hF.len
  by_cases r1 : inB 2 8 n = true
  · by_cases r2 : m ≤ 14
    · have r1' := r1
      unfold inB at r1'
      have R1 : Hid (decide (2 ≤ xs.length ∧ xs.length ≤ 8) = true) := by rw [hlx]; simp only [decide_eq_true_eq] at r1' ⊢; show _ ∧ _; omega
      have R2 : Hid (decide (fs.length ≤ 14) = true) := hid (by rw [hlf]; simpa using r2)
      have r3 : decide ((14 : Int) < (m : Int)) = false := by simp; omega
      have r4 : decide (14 < m) = false := by simp; omega
      have HLX := hid hlx
      have HLF := hid hlf
      clear r1' r2 hlx hlf
      go_enter Try.func67, Try.ntmps67
      go_wp2_with (go_at_call 78; refine (l1In_any _ _ _ _).mono ?_; rintro e w' ⟨rfl, rfl⟩)
      obtain ⟨wo, hwo⟩ : ∃ wo : World, wo = w.alloc (.cells #[.slice A n c, .slice A' m d] 27) := ⟨_, rfl⟩
      rw [← hwo]
      have g0 : wo.cell? ⟨w.heap.size, 0, none⟩ = some (.slice A n c) := by rw [hwo]; go_simp
      have g1 : wo.cell? ⟨w.heap.size, 1, none⟩ = some (.slice A' m d) := by rw [hwo]; go_simp
      have hbo : Below w.heap.size w wo := by rw [hwo]; exact bl_alloc (Below.refl _ _) _
      clear hwo r1 r3 r4
      go_loopw [3] (fun i wr => ∃ k : Nat, k ≤ n ∧ i = .int .i64 k ∧ Hid (allTo (nameAt xs) k) ∧ Below wo.heap.size wo wr) (fun i _ => n - (intOf i).toNat)
      case atStart => exact ⟨0, Nat.zero_le _, rfl, allTo_zero _, Below.refl _ _⟩
      case round =>
        obtain ⟨k, hk, rfl, hall, hb⟩ := hrel
        have c0 := bl_cell hb g0
        have c1 := bl_cell hb g1
        have hbw := bl_then hbo hb
        by_cases hlt : k < n
        · obtain ⟨b, o, rfl, _, hc⟩ := hA.at_ hlt
          obtain ⟨x, hxk⟩ := get_of hA.len hlt
          have hcx := bl_cell hbw (hc k x hxk 0 _ rfl)
          simp only [elStr, Nat.mul_one, Nat.add_zero] at hcx
          have hxs : x.size ≤ maxLen := hx x (List.mem_of_getElem? hxk)
          have hS := hid ((hA.below (hbw.mono hB)).more (Nat.le_trans hB hbw.size))
          clear hc g0 g1
          have hat : nameAt xs k = (nameB x.data.toList && !hasB (xs.take k) x) := by unfold nameAt; rw [getD_of hxk]
          have hft := find_take hxk
          clear hxk
          go_wp2
          have C0 : ∀ w', Cls wr w' → w'.cell? ⟨w.heap.size, 0, none⟩ = some (.slice (some ⟨b, o, none⟩) n c) := fun _ h => h.cell c0
          have C2 : ∀ w', Cls wr w' → w'.cell? ⟨b, o + k, none⟩ = some (.string x) := fun _ h => h.cell hcx
          have C3 : Hid (∀ w', Cls wr w' → Sees elStr w' wr.heap.size (some ⟨b, o, none⟩) n xs) := fun w' h => hS.out.below h
          clear c0 c1 hcx hS
          have i1 : (k : Int) < (n : Int) := by omega
          by_cases h1 : nameB x.data.toList = true
          · by_cases h2 : hasB (xs.take k) x = true
            · have HN : Hid (goodB xs fs = false) := goodB_name (by rw [HLX.out]; exact hlt) (by rw [hat, h1, h2]; rfl)
              have e1 : (findI xs x != (k : Int)) = true := by rw [bne_iff_ne]; exact hft.1 h2
              clear hat hft h2
              refine region_cls (by kernel_rfl) (by kernel_rfl) ?_
              repeat (first
                | ((with_reducible refine quiet_pos ?_ (fun K hK => ?_))
                   · rfl
                   apply Exists.intro
                   refine ⟨fun w' hw' => ?_, ?_⟩
                   · go_simp
                     first
                       | with_reducible rfl
                       | (go_at_call 132; exact hw'.same (l2Name_any x _ hxs))
                       | (go_at_call 133; exact hw'.same (l2Find_any x _ (C3.out _ hw') (by simp only [maxLen]; omega)))
                   simp only [Act.put, List.setIfInBounds_toArray, List.set_cons_zero, List.set_cons_succ]
                   refine hK _ ?_; clear hK K)
                | ((with_reducible refine quiet_neg ?_ (fun K hK => ?_))
                   · rfl
                   simp only [Act.put, List.setIfInBounds_toArray, List.set_cons_zero, List.set_cons_succ]
                   refine hK _ ?_; clear hK K))
              with_reducible refine wpQuiet_nil ?_
              intro w3 hw3
              go_wp2
              go_ret
              exact ⟨ret_bool HN.out.symm, bl_then hbw hw3⟩
            · have h2' : hasB (xs.take k) x = false := by simpa using h2
              have HY : Hid (allTo (nameAt xs) (k + 1)) := allTo_succ hall (by rw [hat, h1, h2']; rfl)
              have e1 : (findI xs x != (k : Int)) = false := by rw [bne_eq_false_iff_eq]; exact Classical.byContradiction fun hne => h2 (hft.2 hne)
              clear hat hft h2 h2'
              refine region_cls (by kernel_rfl) (by kernel_rfl) ?_
              repeat (first
                | ((with_reducible refine quiet_pos ?_ (fun K hK => ?_))
                   · rfl
                   apply Exists.intro
                   refine ⟨fun w' hw' => ?_, ?_⟩
                   · go_simp
                     first
                       | with_reducible rfl
                       | (go_at_call 132; exact hw'.same (l2Name_any x _ hxs))
                       | (go_at_call 133; exact hw'.same (l2Find_any x _ (C3.out _ hw') (by simp only [maxLen]; omega)))
                   simp only [Act.put, List.setIfInBounds_toArray, List.set_cons_zero, List.set_cons_succ]
                   refine hK _ ?_; clear hK K)
                | ((with_reducible refine quiet_neg ?_ (fun K hK => ?_))
                   · rfl
                   simp only [Act.put, List.setIfInBounds_toArray, List.set_cons_zero, List.set_cons_succ]
                   refine hK _ ?_; clear hK K))
              with_reducible refine wpQuiet_nil ?_
              intro w3 hw3
              go_wp2
              go_roundw
              case rel => exact ⟨k + 1, by omega, by go_num, HY, bl_then hb hw3⟩
              case measure => simp [intOf]; omega
          · have h1' : nameB x.data.toList = false := by simpa using h1
            have HN : Hid (goodB xs fs = false) := goodB_name (by rw [HLX.out]; exact hlt) (by rw [hat, h1']; rfl)
            clear hat hft h1
            refine region_cls (by kernel_rfl) (by kernel_rfl) ?_
            repeat (first
              | ((with_reducible refine quiet_pos ?_ (fun K hK => ?_))
                 · rfl
                 apply Exists.intro
                 refine ⟨fun w' hw' => ?_, ?_⟩
                 · go_simp
                   first
                     | with_reducible rfl
                     | (go_at_call 132; exact hw'.same (l2Name_any x _ hxs))
                     | (go_at_call 133; exact hw'.same (l2Find_any x _ (C3.out _ hw') (by simp only [maxLen]; omega)))
                 simp only [Act.put, List.setIfInBounds_toArray, List.set_cons_zero, List.set_cons_succ]
                 refine hK _ ?_; clear hK K)
              | ((with_reducible refine quiet_neg ?_ (fun K hK => ?_))
                 · rfl
                 simp only [Act.put, List.setIfInBounds_toArray, List.set_cons_zero, List.set_cons_succ]
                 refine hK _ ?_; clear hK K))
            with_reducible refine wpQuiet_nil ?_
            intro w3 hw3
            go_wp2
            go_ret
            exact ⟨ret_bool HN.out.symm, bl_then hbw hw3⟩
        · have hnames : Hid (allTo (nameAt xs) xs.length) := by obtain rfl : k = n := (by omega); rw [HLX.out]; exact hall.out
          clear hall
          go_wp2
          obtain ⟨wp, rfl⟩ : ∃ wp : World, wp = wr := ⟨_, rfl⟩
          clear c0 c1 hlt hk
          go_loopw [4] (fun i wr => ∃ j : Nat, j ≤ m ∧ i = .int .i64 j ∧ Hid (allTo (fibAt n fs) j) ∧ Below wo.heap.size wo wr) (fun i _ => m - (intOf i).toNat)
          case atStart => exact ⟨0, Nat.zero_le _, rfl, allTo_zero _, hb⟩
          case round =>
            clear hb hbw
            obtain ⟨j, hj, rfl, hall, hb⟩ := hrel
            have c0 := bl_cell hb g0
            have c1 := bl_cell hb g1
            have hbw := bl_then hbo hb
            by_cases hlt : j < m
            · obtain ⟨b, o, rfl, _, hc⟩ := hF.at_ hlt
              obtain ⟨f, hfj⟩ := get_of hF.len hlt
              have f0 := bl_cell hbw (hc j f hfj 0 _ rfl)
              have f1 := bl_cell hbw (hc j f hfj 1 _ rfl)
              have f2 := bl_cell hbw (hc j f hfj 2 _ rfl)
              have f3 := bl_cell hbw (hc j f hfj 3 _ rfl)
              simp only [elFib, Nat.add_zero] at f0 f1 f2 f3
              have hg : 0 < j → ∃ g, fs[j - 1]? = some g ∧ wr.cell? ⟨b, o + (j - 1) * 4, none⟩ = some (.int .i64 g.a) ∧ wr.cell? ⟨b, o + (j - 1) * 4 + 1, none⟩ = some (.int .i64 g.b) ∧ wr.cell? ⟨b, o + (j - 1) * 4 + 2, none⟩ = some (.int .i64 g.len) ∧ wr.cell? ⟨b, o + (j - 1) * 4 + 3, none⟩ = some (.int .i64 g.risk) := by
                intro hj0
                obtain ⟨g, hgj⟩ := get_of (k := j - 1) hF.len (by omega)
                exact ⟨g, hgj, bl_cell hbw (hc (j - 1) g hgj 0 _ rfl), bl_cell hbw (hc (j - 1) g hgj 1 _ rfl), bl_cell hbw (hc (j - 1) g hgj 2 _ rfl), bl_cell hbw (hc (j - 1) g hgj 3 _ rfl)⟩
              clear hc g0 g1
              go_wp2
              have C0 : ∀ w', Cls wr w' → w'.cell? ⟨w.heap.size, 0, none⟩ = some (.slice A n c) := fun _ h => h.cell c0
              have C1 : ∀ w', Cls wr w' → w'.cell? ⟨w.heap.size, 1, none⟩ = some (.slice (some ⟨b, o, none⟩) m d) := fun _ h => h.cell c1
              have T0 : ∀ w', Cls wr w' → w'.cell? ⟨b, o + j * 4, none⟩ = some (.int .i64 f.a) := fun _ h => h.cell f0
              have T1 : ∀ w', Cls wr w' → w'.cell? ⟨b, o + j * 4 + 1, none⟩ = some (.int .i64 f.b) := fun _ h => h.cell f1
              have T2 : ∀ w', Cls wr w' → w'.cell? ⟨b, o + j * 4 + 2, none⟩ = some (.int .i64 f.len) := fun _ h => h.cell f2
              have T3 : ∀ w', Cls wr w' → w'.cell? ⟨b, o + j * 4 + 3, none⟩ = some (.int .i64 f.risk) := fun _ h => h.cell f3
              clear c0 c1 f0 f1 f2 f3
              have i0 : (j : Int) < (m : Int) := by omega
              have hfat : fibAt n fs j = (fibB n f && (j == 0 || decide (cmpFib (fs.getD (j - 1) default) f ≤ 0))) := by unfold fibAt; rw [getD_of hfj]
              clear hfj
              by_cases hok : fibB n f = true
              · by_cases hj0 : j = 0
                · have HY : Hid (allTo (fibAt n fs) (j + 1)) := allTo_succ hall (by rw [hfat, hok, hj0]; rfl)
                  have e6 : decide (0 < j) = false := by simp; omega
                  clear hfat hg hj0
                  refine region_cls (by kernel_rfl) (by kernel_rfl) ?_
                  repeat (first
                    | ((with_reducible refine quiet_pos ?_ (fun K hK => ?_))
                       · rfl
                       apply Exists.intro
                       refine ⟨fun w' hw' => ?_, ?_⟩
                       · go_simp
                         first
                           | with_reducible rfl
                           | (go_at_call 113; exact hw'.call (l2Fiber_any f n _ hn))
                       simp only [Act.put, List.setIfInBounds_toArray, List.set_cons_zero, List.set_cons_succ]
                       refine hK _ ?_; clear hK K)
                    | ((with_reducible refine quiet_neg ?_ (fun K hK => ?_))
                       · rfl
                       simp only [Act.put, List.setIfInBounds_toArray, List.set_cons_zero, List.set_cons_succ]
                       refine hK _ ?_; clear hK K))
                  with_reducible refine wpQuiet_nil ?_
                  intro w3 hw3
                  go_wp2
                  go_roundw
                  case rel => exact ⟨j + 1, by omega, by go_num, HY, bl_then hb hw3⟩
                  case measure => simp [intOf]; omega
                · obtain ⟨g, hgj, q0, q1, q2, q3⟩ := hg (by omega)
                  have e6 : decide (0 < j) = true := by simp; omega
                  have hsf := hid (smallF_of hn hok)
                  have hsg : Hid (smallF g) := by
                    refine smallF_of hn ?_
                    have := hall.out (j - 1) (by omega)
                    unfold fibAt at this
                    rw [getD_of hgj, Bool.and_eq_true] at this
                    exact this.1
                  have Q0 : ∀ w', Cls wr w' → w'.cell? ⟨b, o + (j - 1) * 4, none⟩ = some (.int .i64 g.a) := fun _ h => h.cell q0
                  have Q1 : ∀ w', Cls wr w' → w'.cell? ⟨b, o + (j - 1) * 4 + 1, none⟩ = some (.int .i64 g.b) := fun _ h => h.cell q1
                  have Q2 : ∀ w', Cls wr w' → w'.cell? ⟨b, o + (j - 1) * 4 + 2, none⟩ = some (.int .i64 g.len) := fun _ h => h.cell q2
                  have Q3 : ∀ w', Cls wr w' → w'.cell? ⟨b, o + (j - 1) * 4 + 3, none⟩ = some (.int .i64 g.risk) := fun _ h => h.cell q3
                  clear q0 q1 q2 q3
                  rw [getD_of hgj] at hfat
                  have i1 : IntKind.i64.wrap ((j : Int) - 1) = (j : Int) - 1 := IntWalk.i64_in _ (by omega)
                  have i2 : (0 : Int) ≤ (j : Int) - 1 := by omega
                  have i3 : ((j : Int) - 1).toNat = j - 1 := by omega
                  have i4 : (j : Int) - 1 < (m : Int) := by omega
                  have i5 : (1 : Int) ≤ (j : Int) := by omega
                  have i6 : 1 ≤ j := by omega
                  by_cases hcmp : befF g f ≤ 0
                  · have HY : Hid (allTo (fibAt n fs) (j + 1)) := allTo_succ hall (by rw [hfat, hok]; simp [(befF_le g f).1 hcmp])
                    have e7 : decide (0 < befF g f) = false := by simp; omega
                    clear hfat hg hcmp hgj
                    refine region_cls (by kernel_rfl) (by kernel_rfl) ?_
                    repeat (first
                      | ((with_reducible refine quiet_pos ?_ (fun K hK => ?_))
                         · rfl
                         apply Exists.intro
                         refine ⟨fun w' hw' => ?_, ?_⟩
                         · go_simp
                           first
                             | with_reducible rfl
                             | (go_at_call 113; exact hw'.call (l2Fiber_any f n _ hn))
                             | (go_at_call 114; exact hw'.call (l2Before_any g f _ hsg.out hsf.out))
                         simp only [Act.put, List.setIfInBounds_toArray, List.set_cons_zero, List.set_cons_succ]
                         refine hK _ ?_; clear hK K)
                      | ((with_reducible refine quiet_neg ?_ (fun K hK => ?_))
                         · rfl
                         simp only [Act.put, List.setIfInBounds_toArray, List.set_cons_zero, List.set_cons_succ]
                         refine hK _ ?_; clear hK K))
                    with_reducible refine wpQuiet_nil ?_
                    intro w3 hw3
                    go_wp2
                    go_roundw
                    case rel => exact ⟨j + 1, by omega, by go_num, HY, bl_then hb hw3⟩
                    case measure => simp [intOf]; omega
                  · have HN : Hid (goodB xs fs = false) := goodB_fibAt (by rw [HLF.out]; exact hlt) (by rw [HLX.out, hfat, hok]; simp [hj0, show ¬ cmpFib g f ≤ 0 from fun h => hcmp ((befF_le g f).2 h)])
                    have e7 : decide (0 < befF g f) = true := by simp; omega
                    clear hfat hg hcmp hgj
                    refine region_cls (by kernel_rfl) (by kernel_rfl) ?_
                    repeat (first
                      | ((with_reducible refine quiet_pos ?_ (fun K hK => ?_))
                         · rfl
                         apply Exists.intro
                         refine ⟨fun w' hw' => ?_, ?_⟩
                         · go_simp
                           first
                             | with_reducible rfl
                             | (go_at_call 113; exact hw'.call (l2Fiber_any f n _ hn))
                             | (go_at_call 114; exact hw'.call (l2Before_any g f _ hsg.out hsf.out))
                         simp only [Act.put, List.setIfInBounds_toArray, List.set_cons_zero, List.set_cons_succ]
                         refine hK _ ?_; clear hK K)
                      | ((with_reducible refine quiet_neg ?_ (fun K hK => ?_))
                         · rfl
                         simp only [Act.put, List.setIfInBounds_toArray, List.set_cons_zero, List.set_cons_succ]
                         refine hK _ ?_; clear hK K))
                    with_reducible refine wpQuiet_nil ?_
                    intro w3 hw3
                    go_wp2
                    go_ret
                    exact ⟨ret_bool HN.out.symm, bl_then hbw hw3⟩
              · have hok' : fibB n f = false := by simpa using hok
                have HN : Hid (goodB xs fs = false) := goodB_fibAt (by rw [HLF.out]; exact hlt) (by rw [HLX.out, hfat, hok']; rfl)
                clear hfat hg hok
                refine region_cls (by kernel_rfl) (by kernel_rfl) ?_
                repeat (first
                  | ((with_reducible refine quiet_pos ?_ (fun K hK => ?_))
                     · rfl
                     apply Exists.intro
                     refine ⟨fun w' hw' => ?_, ?_⟩
                     · go_simp
                       first
                         | with_reducible rfl
                         | (go_at_call 113; exact hw'.call (l2Fiber_any f n _ hn))
                     simp only [Act.put, List.setIfInBounds_toArray, List.set_cons_zero, List.set_cons_succ]
                     refine hK _ ?_; clear hK K)
                  | ((with_reducible refine quiet_neg ?_ (fun K hK => ?_))
                     · rfl
                     simp only [Act.put, List.setIfInBounds_toArray, List.set_cons_zero, List.set_cons_succ]
                     refine hK _ ?_; clear hK K))
                with_reducible refine wpQuiet_nil ?_
                intro w3 hw3
                go_wp2
                go_ret
                exact ⟨ret_bool HN.out.symm, bl_then hbw hw3⟩
            · have hfibs : Hid (allTo (fibAt n fs) fs.length) := by obtain rfl : j = m := (by omega); rw [HLF.out]; exact hall.out
              have HR := hid (goodB_all R1.out R2.out hnames.out (by rw [HLX.out]; exact hfibs.out))
              clear hall g0 g1
              go_wp2
              go_ret
              exact ⟨ret_bool HR.out.symm, hbw⟩
    · have HN : Hid (goodB xs fs = false) := goodB_fib (by rw [hlf]; simpa using r2)
      have r3 : decide ((14 : Int) < (m : Int)) = true := by simp; omega
      have r4 : decide (14 < m) = true := by simp; omega
      clear hlx hlf
      go_enter Try.func67, Try.ntmps67
      go_wp2_with (go_at_call 78; refine (l1In_any _ _ _ _).mono ?_; rintro e w' ⟨rfl, rfl⟩)
      go_ret
      exact ⟨ret_bool HN.out.symm, bl_alloc (Below.refl _ _) _⟩
  · have r1' : inB 2 8 n = false := by simpa using r1
    have HN : Hid (goodB xs fs = false) := goodB_len (by rw [hlx]; unfold inB at r1'; simp only [decide_eq_false_iff_not] at r1' ⊢; omega)
    clear hlx hlf r1
    go_enter Try.func67, Try.ntmps67
    go_wp2_with (go_at_call 78; refine (l1In_any _ _ _ _).mono ?_; rintro e w' ⟨rfl, rfl⟩)
    go_ret
    exact ⟨ret_bool HN.out.symm, bl_alloc (Below.refl _ _) _⟩
end Go.Proofs.Ytfepilpllfiegaa
/- A network in memory, under one word; its two looks under that word. Conditions: none. -/
namespace Go.Proofs.Ytfepilpllfiegaa
open Go.RowKit
/-- The value is a network that shows the names xs and the fibers fs. -/
def NetIs (w : World) (A : Option Addr) (n c : Nat) (A' : Option Addr) (m d : Nat) (xs : List ByteArray) (fs : List Fib) : Prop :=
  (n ≤ c ∧ n ≤ 1048576) ∧ (m ≤ d ∧ m ≤ 1048576) ∧ Sees elStr w w.heap.size A n xs ∧ Sees elFib w w.heap.size A' m fs ∧ ∀ x ∈ xs, x.size ≤ maxLen
section
variable {w w' : World} {n c m d : Nat} {A A' : Option Addr} {xs : List ByteArray} {fs : List Fib}
theorem NetIs.grow (h : NetIs w A n c A' m d xs fs) (hb : Below w.heap.size w w') : NetIs w' A n c A' m d xs fs :=
  ⟨h.1, h.2.1, (h.2.2.1.grow hb).more hb.size, (h.2.2.2.1.grow hb).more hb.size, h.2.2.2.2⟩
theorem NetIs.strs (h : NetIs w A n c A' m d xs fs) : Sees elStr w w.heap.size A n xs := h.2.2.1
theorem NetIs.fibs (h : NetIs w A n c A' m d xs fs) : Sees elFib w w.heap.size A' m fs := h.2.2.2.1
theorem NetIs.nle (h : NetIs w A n c A' m d xs fs) : n ≤ 1048576 := h.1.2
theorem NetIs.mle (h : NetIs w A n c A' m d xs fs) : m ≤ 1048576 := h.2.1.2
theorem NetIs.xlen (h : NetIs w A n c A' m d xs fs) : xs.length = n := h.2.2.1.len
theorem NetIs.flen (h : NetIs w A n c A' m d xs fs) : fs.length = m := h.2.2.2.1.len
theorem NetOwn.is {base : Nat} (h : NetOwn w base A n c A' m d xs fs) (hn : n ≤ 1048576) (hm : m ≤ 1048576) (hx : ∀ x ∈ xs, x.size ≤ maxLen) : NetIs w A n c A' m d xs fs :=
  ⟨⟨h.1, hn⟩, ⟨h.2.2.1, hm⟩, h.strs, h.fibs, hx⟩
end
theorem validN {n c m d : Nat} {A A' : Option Addr} {xs : List ByteArray} {fs : List Fib} (w : World) (h : NetIs w A n c A' m d xs fs) :
    Calls Try.prog 47 #[.agg #[.slice A n c, .slice A' m d]] w fun e w' => e = .returned (.bool (goodB xs fs)) ∧ Below w.heap.size w w' :=
  isValid_any w h.strs h.fibs (Nat.le_refl _) h.nle h.mle h.1.1 h.2.1.1 h.2.2.2.2
theorem goodN {n c m d : Nat} {A A' : Option Addr} {xs : List ByteArray} {fs : List Fib} (w : World) (h : NetIs w A n c A' m d xs fs) :
    Calls Try.prog 67 #[.agg #[.slice A n c, .slice A' m d]] w fun e w' => e = .returned (.bool (goodB xs fs)) ∧ Below w.heap.size w w' :=
  l2Good_any w h.strs h.fibs (Nat.le_refl _) h.nle h.mle h.2.2.2.2
theorem goodB_bd {xs : List ByteArray} {fs : List Fib} (h : goodB xs fs = true) : 2 ≤ xs.length ∧ xs.length ≤ 8 ∧ fs.length ≤ 14 := by
  unfold goodB at h; simp at h; omega
theorem goodB_fibB {xs : List ByteArray} {fs : List Fib} (h : goodB xs fs = true) {f : Fib} (hf : f ∈ fs) : fibB xs.length f = true := by
  obtain ⟨k, hk, e⟩ := List.mem_iff_getElem.1 hf
  unfold goodB at h
  rw [Bool.and_eq_true] at h
  have := allB_iff.1 h.2 k hk
  unfold fibAt at this
  rw [Bool.and_eq_true, getD_of (x := f) (by rw [List.getElem?_eq_getElem hk, e])] at this
  exact this.1
end Go.Proofs.Ytfepilpllfiegaa
/- The other end of a fiber: the program's and the reference's functions, walked. Conditions: none. -/
namespace Go.Proofs.Ytfepilpllfiegaa
open Go.RowKit
def otherF (f : Fib) (v : Int) : Int := if v = f.a then f.b else if v = f.b then f.a else -1
theorem otherF_bd {n : Nat} {f : Fib} (h : fibB n f = true) (v : Int) : -1 ≤ otherF f v ∧ otherF f v < n := by
  unfold fibB at h; simp at h; unfold otherF; split <;> (try split) <;> omega
theorem otherF_out {n : Nat} {f : Fib} {v : Int} (h : fibB n f = true) (hv : inB 0 ((n : Int) - 1) v = false) : otherF f v = -1 := by
  unfold fibB at h; simp at h; unfold inB at hv; simp at hv; unfold otherF; rw [if_neg (by omega), if_neg (by omega)]
set_option maxRecDepth 100000 in
theorem otherEnd_any (f : Fib) (v : Int) (w : World) :
    Calls Try.prog 123 #[fibV f, .int .i64 v] w fun e w' => e = .returned (.int .i64 (otherF f v)) ∧ Below w.heap.size w w' := by
  obtain ⟨a, b, l, r⟩ := f
  unfold fibV otherF
  simp only
  by_cases h1 : v = a
  · have e1 : (v == a) = true := by simp [h1]
    rw [if_pos h1]; clear h1
    go_enter Try.func123, Try.ntmps123
    go_wp2
    go_ret
    exact ⟨rfl, bl_alloc (Below.refl _ _) _⟩
  · have e1 : (v == a) = false := by simp [h1]
    rw [if_neg h1]; clear h1
    by_cases h2 : v = b
    · have e2 : (v == b) = true := by simp [h2]
      rw [if_pos h2]; clear h2
      go_enter Try.func123, Try.ntmps123
      go_wp2
      go_ret
      exact ⟨rfl, bl_alloc (Below.refl _ _) _⟩
    · have e2 : (v == b) = false := by simp [h2]
      rw [if_neg h2]; clear h2
      go_enter Try.func123, Try.ntmps123
      go_wp2
      go_ret
      exact ⟨rfl, bl_alloc (Below.refl _ _) _⟩
section
variable {n c m d : Nat} {A A' : Option Addr} {xs : List ByteArray} {fs : List Fib}
set_option maxRecDepth 100000 in
theorem l2Other_any (i : Int) (v : Int) (w : World) (h : NetIs w A n c A' m d xs fs) {f : Fib} (h0 : 0 ≤ i) (h1 : i < m) (hf : fs[i.toNat]? = some f) :
    Calls Try.prog 79 #[.agg #[.slice A n c, .slice A' m d], .int .i64 i, .int .i64 v] w fun e w' => e = .returned (.int .i64 (otherF f v)) ∧ Below w.heap.size w w' := by
  have hb0 := bl_alloc (Below.refl w.heap.size w) (.cells #[.slice A n c, .slice A' m d] 27)
  obtain ⟨b, o, rfl, _, hc⟩ := (h.grow hb0).fibs.at_ (k := i.toNat) (by omega)
  have f0 := hc _ f hf 0 _ rfl
  have f1 := hc _ f hf 1 _ rfl
  have f2 := hc _ f hf 2 _ rfl
  have f3 := hc _ f hf 3 _ rfl
  simp only [elFib, Nat.add_zero] at f0 f1 f2 f3
  have hm := h.mle
  clear hc hf h
  obtain ⟨a, b', l, r⟩ := f
  unfold otherF
  simp only at f0 f1 f2 f3 ⊢
  by_cases h2 : v = a
  · have e1 : (v == a) = true := by simp [h2]
    rw [if_pos h2]; clear h2
    go_enter Try.func79, Try.ntmps79
    go_wp2
    go_ret
    exact ⟨rfl, bl_alloc hb0 _⟩
  · have e1 : (v == a) = false := by simp [h2]
    rw [if_neg h2]; clear h2
    by_cases h3 : v = b'
    · have e2 : (v == b') = true := by simp [h3]
      rw [if_pos h3]; clear h3
      go_enter Try.func79, Try.ntmps79
      go_wp2
      go_ret
      exact ⟨rfl, bl_alloc hb0 _⟩
    · have e2 : (v == b') = false := by simp [h3]
      rw [if_neg h3]; clear h3
      go_enter Try.func79, Try.ntmps79
      go_wp2
      go_ret
      exact ⟨rfl, bl_alloc hb0 _⟩
end
end Go.Proofs.Ytfepilpllfiegaa
/- Routes: the nodes they come by, in plain Lean; a route in memory. Conditions: none. -/
namespace Go.Proofs.Ytfepilpllfiegaa
open Go.RowKit
/-- The node after k fibers. -/
def atW (fs : List Fib) (s : Int) (ids : List Int) : Nat → Int
  | 0 => s
  | k + 1 => otherF (fs.getD (ids.getD k 0).toNat ⟨0, 0, 0, 0⟩) (atW fs s ids k)
/-- The nodes up to there. -/
def outW (fs : List Fib) (s : Int) (ids : List Int) (k : Nat) : List Int := (List.range (k + 1)).map (atW fs s ids)
theorem outW_len (fs : List Fib) (s : Int) (ids : List Int) (k : Nat) : (outW fs s ids k).length = k + 1 := by simp [outW]
theorem outW_zero (fs : List Fib) (s : Int) (ids : List Int) : outW fs s ids 0 = [s] := rfl
theorem outW_succ (fs : List Fib) (s : Int) (ids : List Int) (k : Nat) : outW fs s ids (k + 1) = outW fs s ids k ++ [atW fs s ids (k + 1)] := by unfold outW; rw [List.range_succ (n := k + 1), List.map_append]; rfl
theorem outW_get (fs : List Fib) (s : Int) (ids : List Int) (k : Nat) : (outW fs s ids k)[k]? = some (atW fs s ids k) := by simp [outW]
theorem atW_succ {fs : List Fib} {s : Int} {ids : List Int} {k : Nat} {i : Int} {f : Fib} (hi : ids[k]? = some i) (hf : fs[i.toNat]? = some f) : atW fs s ids (k + 1) = otherF f (atW fs s ids k) := by
  show otherF _ _ = _
  rw [getD_of hi, getD_of hf]
/-- Step k is one that a route may take. -/
def okW (m : Nat) (fs : List Fib) (s : Int) (ids : List Int) (k : Nat) : Bool :=
  inB 0 ((m : Int) - 1) (ids.getD k 0) && (!decide (atW fs s ids (k + 1) < 0) && !hasB (outW fs s ids k) (atW fs s ids (k + 1)))
/-- Is it a route (of a network that is valid)? -/
def rtB (n : Nat) (fs : List Fib) (s : Int) (ids : List Int) : Bool := inB 0 ((n : Int) - 1) s && (!(ids.length == 0) && allB (okW fs.length fs s ids) ids.length)
/-- Its nodes; none of what is no route. -/
def rtL (n : Nat) (fs : List Fib) (s : Int) (ids : List Int) : List Int := if rtB n fs s ids then outW fs s ids ids.length else []
theorem rtL_yes {n : Nat} {fs : List Fib} {s : Int} {ids : List Int} (h : rtB n fs s ids = true) : rtL n fs s ids = outW fs s ids ids.length := if_pos h
theorem rtL_no {n : Nat} {fs : List Fib} {s : Int} {ids : List Int} (h : rtB n fs s ids = false) : rtL n fs s ids = [] := by unfold rtL; rw [h]; rfl
/-- .. of a network that may be invalid. -/
def routeB (xs : List ByteArray) (fs : List Fib) (s : Int) (ids : List Int) : Bool := goodB xs fs && rtB xs.length fs s ids
/-- A route lies in memory. -/
def RtIs (w : World) (R : Option Addr) (k e : Nat) (ids : List Int) : Prop := (k ≤ e ∧ k ≤ 1048576) ∧ Sees elInt w w.heap.size R k ids
section
variable {w w' : World} {R : Option Addr} {k e : Nat} {ids : List Int}
theorem RtIs.grow (h : RtIs w R k e ids) (hb : Below w.heap.size w w') : RtIs w' R k e ids := ⟨h.1, (h.2.grow hb).more hb.size⟩
theorem RtIs.len (h : RtIs w R k e ids) : ids.length = k := h.2.len
theorem RtIs.le (h : RtIs w R k e ids) : k ≤ 1048576 := h.1.2
end
end Go.Proofs.Ytfepilpllfiegaa
/- eqStringS, walked: two slices that show one list are equal. Conditions: none. -/
namespace Go.Proofs.Ytfepilpllfiegaa
open Go.RowKit
end Go.Proofs.Ytfepilpllfiegaa
/- eqFiber, eqFiberS and eqNetwork, walked: what shows one list is equal. Conditions: none. -/
namespace Go.Proofs.Ytfepilpllfiegaa
open Go.RowKit
end Go.Proofs.Ytfepilpllfiegaa
