/- Lemmas and walks that the claim rests on, laid together. Conditions: none. -/
import Derived.Test.YtjklphlgmlomjaaZ580cd44e5c1f
import Derived.Test.YtjklphlgmlomjaaZ6835c5f33dab
import Derived.Test.YtjklphlgmlomjaaRows
/- The reference's look at a name, walked: it answers as nameB. Conditions: none. -/
namespace Go.Proofs.Ytjklphlgmlomjaa
open Go.RowKit
set_option maxRecDepth 100000 in
theorem l2Sign_any (c : UInt8) (w : World) : Calls Try.prog 141 #[.int .u8 c.toNat] w fun e w' => e = .returned (.bool (letB c || digB c)) ∧ w = w' := by
  have hb : (c.toNat : Int) < 256 := by have := c.toNat_lt; omega
  rcases byte_cases c.toNat with h1 | ⟨h1, h2⟩ | ⟨h1, h2⟩ | ⟨h1, h2⟩ | h1
  all_goals
    go_enter Try.func141, Try.ntmps141
    go_wp2
    go_ret
    exact ⟨ret_bool (by unfold letB digB; rw [Bool.eq_iff_iff]; simp; omega), rfl⟩
/-- Behind the first byte's look, the rest of the reference's look. -/
theorem nameB_first {l : List UInt8} {c : UInt8} (hc : l[0]? = some c) (h : letB c = false) : nameB l = false := nameB_no hc (by unfold okAt; simp [h])
theorem nameB_long {l : List UInt8} (h : inB 1 8 l.length = false) : nameB l = false := by
  unfold nameB inB at *
  rw [Bool.and_eq_false_iff]
  refine .inl ?_
  rw [← h]; rw [Bool.eq_iff_iff]; simp only [decide_eq_true_eq]; omega
def sgTo (l : List UInt8) (k : Nat) : Prop := ∀ j c, j < k → l[j]? = some c → (letB c || digB c) = true
theorem sgTo_succ {l : List UInt8} {k : Nat} {c : UInt8} (h : sgTo l k) (hc : l[k]? = some c) (ho : (letB c || digB c) = true) : sgTo l (k + 1) := by
  intro j d hj hd
  rcases Nat.lt_succ_iff_lt_or_eq.1 hj with hlt | rfl
  · exact h j d hlt hd
  · rw [hc] at hd; injection hd with hd; subst hd; exact ho
theorem nameB_sg {l : List UInt8} {c0 : UInt8} (h : sgTo l l.length) (hc : l[0]? = some c0) (h0 : letB c0 = true) (hl : inB 1 8 l.length = true) : nameB l = true := by
  rw [nameB_yes, hl]
  intro j c hj hjc
  have := h j c hj hjc
  unfold okAt
  rcases Nat.eq_zero_or_pos j with rfl | hp
  · rw [hc] at hjc; injection hjc with hjc; subst hjc; simp [h0]
  · have : (j == 0) = false := by simp; omega
    rw [this]; simpa using h j c hj hjc
theorem nameB_bad {l : List UInt8} {k : Nat} {c : UInt8} (hc : l[k]? = some c) (h : (letB c || digB c) = false) : nameB l = false := by
  rw [Bool.or_eq_false_iff] at h
  exact nameB_no hc (by unfold okAt; simp [h.1, h.2])
set_option maxHeartbeats 1000000 in
set_option maxRecDepth 100000 in
theorem l2Name_any (s : ByteArray) (w : World) (hs : s.size ≤ maxLen) :
    Calls Try.prog 118 #[.string s] w fun e w' => e = .returned (.bool (nameB s.data.toList)) ∧ w = w' := by
  unfold maxLen at hs
  by_cases hin : inB 1 8 s.size = true
  · have hin' := hin
    unfold inB at hin'
    simp only [decide_eq_true_eq] at hin'
    have h0 : 0 < s.size := by omega
    have hg := get_list s 0 h0
    generalize hc : s[0] = c at hg
    have hget : s[0] = c := hc
    clear hc
    have hb : (c.toNat : Int) < 256 := by have := c.toNat_lt; omega
    by_cases hlet : letB c = true
    · have hl2 := hlet
      unfold letB at hl2
      simp only [decide_eq_true_eq] at hl2
      obtain ⟨hl3, hl4⟩ := hl2
      have hl5 : decide ((c.toNat : Int) < 97) = false := by simp; omega
      have hl6 : decide ((122 : Int) < (c.toNat : Int)) = false := by simp; omega
      have HG := hid hg
      have HL := hid hlet
      have HI := hid hin
      clear hg hlet
      go_enter Try.func118, Try.ntmps118
      go_wp2_with (go_at_call 87; refine (l1In_any _ _ _ _).mono ?_; rintro e w' ⟨rfl, rfl⟩)
      clear hget hl5 hl6 hin
      go_loop [3] (fun i => ∃ k : Nat, k ≤ s.size ∧ i = .int .i64 k ∧ Hid (sgTo s.data.toList k)) (fun i => s.size - (intOf i).toNat)
      case atStart => exact ⟨0, Nat.zero_le _, rfl, fun j c hj => by omega⟩
      case round =>
        obtain ⟨k, hk, rfl, hok⟩ := hrel
        by_cases hlt : k < s.size
        · have hgk := get_list s k hlt
          generalize hc : s[k] = d at hgk
          have hget : s[k] = d := hc
          clear hc
          by_cases hd : (letB d || digB d) = true
          · have HY : Hid (sgTo s.data.toList (k + 1)) := sgTo_succ hok hgk hd
            clear hgk
            go_wp2_with (go_at_call 141; refine (l2Sign_any d _).mono ?_; rintro e w' ⟨rfl, rfl⟩)
            go_round
            case rel => exact ⟨k + 1, by omega, by go_num, HY⟩
            case measure => simp [intOf]; omega
          · have hd' : (letB d || digB d) = false := by simpa using hd
            have HN : Hid (nameB s.data.toList = false) := nameB_bad hgk hd'
            clear hgk hd
            go_wp2_with (go_at_call 141; refine (l2Sign_any d _).mono ?_; rintro e w' ⟨rfl, rfl⟩)
            go_ret
            exact ⟨ret_bool HN.out.symm, rfl⟩
        · have HY : Hid (nameB s.data.toList = true) := nameB_sg (by rw [size_list]; obtain rfl : k = s.size := (by omega); exact hok.out) HG.out HL.out (by rw [size_list]; exact HI.out)
          go_wp2
          go_ret
          exact ⟨ret_bool HY.out.symm, rfl⟩
    · have hlet' : letB c = false := by simpa using hlet
      have HN : Hid (nameB s.data.toList = false) := nameB_first hg hlet'
      clear hg hlet
      have hlt : c.toNat < 97 ∨ 122 < c.toNat := by
        unfold letB at hlet'; simp at hlet'; omega
      clear hlet'
      rcases hlt with h1 | h1
      · have hl5 : decide ((c.toNat : Int) < 97) = true := by simp; omega
        go_enter Try.func118, Try.ntmps118
        go_wp2_with (go_at_call 87; refine (l1In_any _ _ _ _).mono ?_; rintro e w' ⟨rfl, rfl⟩)
        go_ret
        exact ⟨ret_bool HN.out.symm, rfl⟩
      · have hl5 : decide ((c.toNat : Int) < 97) = false := by simp; omega
        have hl6 : decide ((122 : Int) < (c.toNat : Int)) = true := by simp; omega
        go_enter Try.func118, Try.ntmps118
        go_wp2_with (go_at_call 87; refine (l1In_any _ _ _ _).mono ?_; rintro e w' ⟨rfl, rfl⟩)
        go_ret
        exact ⟨ret_bool HN.out.symm, rfl⟩
  · have hin' : inB 1 8 s.size = false := by simpa using hin
    have HN : Hid (nameB s.data.toList = false) := nameB_long (by rw [size_list]; exact hin')
    clear hin
    go_enter Try.func118, Try.ntmps118
    go_wp2_with (go_at_call 87; refine (l1In_any _ _ _ _).mono ?_; rintro e w' ⟨rfl, rfl⟩)
    go_ret
    exact ⟨ret_bool HN.out.symm, rfl⟩
end Go.Proofs.Ytjklphlgmlomjaa
/- The reference's l2Good, walked: it returns goodB. Conditions: none. -/
namespace Go.Proofs.Ytjklphlgmlomjaa
open Go.RowKit
theorem find_take {xs : List ByteArray} {k : Nat} {x : ByteArray} (hx : xs[k]? = some x) : hasB (xs.take k) x = true ↔ findI xs x ≠ (k : Int) := by
  rw [hasB_iff]
  constructor
  · intro h e
    obtain ⟨j, hj, hj2⟩ := List.mem_iff_getElem.1 h
    have hjk : j < k := by rw [List.length_take] at hj; omega
    have hjl : j < xs.length := by rw [List.length_take] at hj; omega
    have hxj : xs[j]? = some x := by rw [List.getElem?_eq_getElem hjl, ← hj2, List.getElem_take]
    -- the first place of x lies at j or before
    have key : ∀ (l : List ByteArray) (k0 j : Nat), l[j]? = some x → findFrom x l k0 ≤ ((k0 + j : Nat) : Int) := by
      intro l
      induction l with
      | nil => intro k0 j h; simp at h
      | cons y l ih =>
        intro k0 j h
        unfold findFrom
        by_cases hy : y = x
        · rw [if_pos hy]; omega
        · rw [if_neg hy]
          cases j with
          | zero => simp at h; exact absurd h hy
          | succ j => have := ih (k0 + 1) j (by simpa using h); omega
    have := key xs 0 j hxj
    unfold findI at e
    omega
  · intro h
    refine Classical.byContradiction fun hn => h ?_
    refine findI_at ?_ hx
    intro j hj hxj
    refine hn (List.mem_iff_getElem.2 ⟨j, ?_, ?_⟩)
    · rw [List.length_take]; have := (List.getElem?_eq_some_iff.1 hx).1; omega
    · obtain ⟨h1, h2⟩ := List.getElem?_eq_some_iff.1 hxj
      rw [List.getElem_take]; exact h2
theorem goodB_all {xs : List ByteArray} {fs : List Fib} (h1 : decide (2 ≤ xs.length ∧ xs.length ≤ 8) = true) (h2 : decide (fs.length ≤ 14) = true) (h3 : allTo (nameAt xs) xs.length) (h4 : allTo (fibAt xs.length fs) fs.length) : goodB xs fs = true := by
  rw [goodB_rest h3 h4, h1, h2]; rfl
set_option maxHeartbeats 2000000 in
set_option maxRecDepth 100000 in
theorem l2Good_any {B n c m d : Nat} {A A' : Option Addr} {xs : List ByteArray} {fs : List Fib} (w : World) (hA : Sees elStr w B A n xs) (hF : Sees elFib w B A' m fs) (hB : B ≤ w.heap.size) (hn : n ≤ 1048576) (hm : m ≤ 1048576)
    (hx : ∀ x ∈ xs, x.size ≤ maxLen) :
    Calls Try.prog 76 #[.agg #[.slice A n c, .slice A' m d]] w fun e w' => e = .returned (.bool (goodB xs fs)) ∧ Below w.heap.size w w' := by
  have hlx := hA.len
  have hlf := hF.len
  by_cases r1 : inB 2 8 n = true
  · by_cases r2 : m ≤ 14
    · have r1' := r1
      unfold inB at r1'
      have R1 : Hid (decide (2 ≤ xs.length ∧ xs.length ≤ 8) = true) := by rw [hlx]; simp only [decide_eq_true_eq] at r1' ⊢; show _ ∧ _; omega
      have R2 : Hid (decide (fs.length ≤ 14) = true) := hid (by rw [hlf]; simpa using r2)
      have r3 : decide ((14 : Int) < (m : Int)) = false := by simp; omega
      have r4 : decide (14 < m) = false := by simp; omega
      have HLX := hid hlx
      have HLF := hid hlf
      clear r1' r2 hlx hlf
      go_enter Try.func76, Try.ntmps76
      go_wp2_with (go_at_call 87; refine (l1In_any _ _ _ _).mono ?_; rintro e w' ⟨rfl, rfl⟩)
      obtain ⟨wo, hwo⟩ : ∃ wo : World, wo = w.alloc (.cells #[.slice A n c, .slice A' m d] 35) := ⟨_, rfl⟩
      rw [← hwo]
      have g0 : wo.cell? ⟨w.heap.size, 0, none⟩ = some (.slice A n c) := by rw [hwo]; go_simp
      have g1 : wo.cell? ⟨w.heap.size, 1, none⟩ = some (.slice A' m d) := by rw [hwo]; go_simp
      have hbo : Below w.heap.size w wo := by rw [hwo]; exact bl_alloc (Below.refl _ _) _
      clear hwo r1 r3 r4
      go_loopw [3] (fun i wr => ∃ k : Nat, k ≤ n ∧ i = .int .i64 k ∧ Hid (allTo (nameAt xs) k) ∧ Below wo.heap.size wo wr) (fun i _ => n - (intOf i).toNat)
      case atStart => exact ⟨0, Nat.zero_le _, rfl, allTo_zero _, Below.refl _ _⟩
      case round =>
        obtain ⟨k, hk, rfl, hall, hb⟩ := hrel
        have c0 := bl_cell hb g0
        have c1 := bl_cell hb g1
        have hbw := bl_then hbo hb
        by_cases hlt : k < n
        · obtain ⟨b, o, rfl, _, hc⟩ := hA.at_ hlt
          obtain ⟨x, hxk⟩ := get_of hA.len hlt
          have hcx := bl_cell hbw (hc k x hxk 0 _ rfl)
          simp only [elStr, Nat.mul_one, Nat.add_zero] at hcx
          have hxs : x.size ≤ maxLen := hx x (List.mem_of_getElem? hxk)
          have hS := hid ((hA.below (hbw.mono hB)).more (Nat.le_trans hB hbw.size))
          clear hc g0 g1
          have hat : nameAt xs k = (nameB x.data.toList && !hasB (xs.take k) x) := by unfold nameAt; rw [getD_of hxk]
          have hft := find_take hxk
          clear hxk
          go_wp2
          have C0 : ∀ w', Cls wr w' → w'.cell? ⟨w.heap.size, 0, none⟩ = some (.slice (some ⟨b, o, none⟩) n c) := fun _ h => h.cell c0
          have C2 : ∀ w', Cls wr w' → w'.cell? ⟨b, o + k, none⟩ = some (.string x) := fun _ h => h.cell hcx
          have C3 : Hid (∀ w', Cls wr w' → Sees elStr w' wr.heap.size (some ⟨b, o, none⟩) n xs) := fun w' h => hS.out.below h
          clear c0 c1 hcx hS
          have i1 : (k : Int) < (n : Int) := by omega
          by_cases h1 : nameB x.data.toList = true
          · by_cases h2 : hasB (xs.take k) x = true
            · have HN : Hid (goodB xs fs = false) := goodB_name (by rw [HLX.out]; exact hlt) (by rw [hat, h1, h2]; rfl)
              have e1 : (findI xs x != (k : Int)) = true := by rw [bne_iff_ne]; exact hft.1 h2
              clear hat hft h2
              refine region_cls (by kernel_rfl) (by kernel_rfl) ?_
              repeat (first
                | ((with_reducible refine quiet_pos ?_ (fun K hK => ?_))
                   · rfl
                   apply Exists.intro
                   refine ⟨fun w' hw' => ?_, ?_⟩
                   · go_simp
                     first
                       | with_reducible rfl
                       | (go_at_call 118; exact hw'.same (l2Name_any x _ hxs))
                       | (go_at_call 119; exact hw'.same (l2Find_any x _ (C3.out _ hw') (by simp only [maxLen]; omega)))
                   simp only [Act.put, List.setIfInBounds_toArray, List.set_cons_zero, List.set_cons_succ]
                   refine hK _ ?_; clear hK K)
                | ((with_reducible refine quiet_neg ?_ (fun K hK => ?_))
                   · rfl
                   simp only [Act.put, List.setIfInBounds_toArray, List.set_cons_zero, List.set_cons_succ]
                   refine hK _ ?_; clear hK K))
              with_reducible refine wpQuiet_nil ?_
              intro w3 hw3
              go_wp2
              go_ret
              exact ⟨ret_bool HN.out.symm, bl_then hbw hw3⟩
            · have h2' : hasB (xs.take k) x = false := by simpa using h2
              have HY : Hid (allTo (nameAt xs) (k + 1)) := allTo_succ hall (by rw [hat, h1, h2']; rfl)
              have e1 : (findI xs x != (k : Int)) = false := by rw [bne_eq_false_iff_eq]; exact Classical.byContradiction fun hne => h2 (hft.2 hne)
              clear hat hft h2 h2'
              refine region_cls (by kernel_rfl) (by kernel_rfl) ?_
              repeat (first
                | ((with_reducible refine quiet_pos ?_ (fun K hK => ?_))
                   · rfl
                   apply Exists.intro
                   refine ⟨fun w' hw' => ?_, ?_⟩
                   · go_simp
                     first
                       | with_reducible rfl
                       | (go_at_call 118; exact hw'.same (l2Name_any x _ hxs))
                       | (go_at_call 119; exact hw'.same (l2Find_any x _ (C3.out _ hw') (by simp only [maxLen]; omega)))
                   simp only [Act.put, List.setIfInBounds_toArray, List.set_cons_zero, List.set_cons_succ]
                   refine hK _ ?_; clear hK K)
                | ((with_reducible refine quiet_neg ?_ (fun K hK => ?_))
                   · rfl
                   simp only [Act.put, List.setIfInBounds_toArray, List.set_cons_zero, List.set_cons_succ]
                   refine hK _ ?_; clear hK K))
              with_reducible refine wpQuiet_nil ?_
              intro w3 hw3
              go_wp2
              go_roundw
              case rel => exact ⟨k + 1, by omega, by go_num, HY, bl_then hb hw3⟩
              case measure => simp [intOf]; omega
          · have h1' : nameB x.data.toList = false := by simpa using h1
            have HN : Hid (goodB xs fs = false) := goodB_name (by rw [HLX.out]; exact hlt) (by rw [hat, h1']; rfl)
            clear hat hft h1
            refine region_cls (by kernel_rfl) (by kernel_rfl) ?_
            repeat (first
              | ((with_reducible refine quiet_pos ?_ (fun K hK => ?_))
                 · rfl
                 apply Exists.intro
                 refine ⟨fun w' hw' => ?_, ?_⟩
                 · go_simp
                   first
                     | with_reducible rfl
                     | (go_at_call 118; exact hw'.same (l2Name_any x _ hxs))
                     | (go_at_call 119; exact hw'.same (l2Find_any x _ (C3.out _ hw') (by simp only [maxLen]; omega)))
                 simp only [Act.put, List.setIfInBounds_toArray, List.set_cons_zero, List.set_cons_succ]
                 refine hK _ ?_; clear hK K)
              | ((with_reducible refine quiet_neg ?_ (fun K hK => ?_))
                 · rfl
                 simp only [Act.put, List.setIfInBounds_toArray, List.set_cons_zero, List.set_cons_succ]
                 refine hK _ ?_; clear hK K))
            with_reducible refine wpQuiet_nil ?_
            intro w3 hw3
            go_wp2
            go_ret
            exact ⟨ret_bool HN.out.symm, bl_then hbw hw3⟩
        · have hnames : Hid (allTo (nameAt xs) xs.length) := by obtain rfl : k = n := (by omega); rw [HLX.out]; exact hall.out
          clear hall
          go_wp2
          obtain ⟨wp, rfl⟩ : ∃ wp : World, wp = wr := ⟨_, rfl⟩
          clear c0 c1 hlt hk
          go_loopw [4] (fun i wr => ∃ j : Nat, j ≤ m ∧ i = .int .i64 j ∧ Hid (allTo (fibAt n fs) j) ∧ Below wo.heap.size wo wr) (fun i _ => m - (intOf i).toNat)
          case atStart => exact ⟨0, Nat.zero_le _, rfl, allTo_zero _, hb⟩
          case round =>
            clear hb hbw
            obtain ⟨j, hj, rfl, hall, hb⟩ := hrel
            have c0 := bl_cell hb g0
            have c1 := bl_cell hb g1
            have hbw := bl_then hbo hb
            by_cases hlt : j < m
            · obtain ⟨b, o, rfl, _, hc⟩ := hF.at_ hlt
              obtain ⟨f, hfj⟩ := get_of hF.len hlt
              have f0 := bl_cell hbw (hc j f hfj 0 _ rfl)
              have f1 := bl_cell hbw (hc j f hfj 1 _ rfl)
              have f2 := bl_cell hbw (hc j f hfj 2 _ rfl)
              have f3 := bl_cell hbw (hc j f hfj 3 _ rfl)
              simp only [elFib, Nat.add_zero] at f0 f1 f2 f3
              have hg : 0 < j → ∃ g, fs[j - 1]? = some g ∧ wr.cell? ⟨b, o + (j - 1) * 4, none⟩ = some (.int .i64 g.a) ∧ wr.cell? ⟨b, o + (j - 1) * 4 + 1, none⟩ = some (.int .i64 g.b) ∧ wr.cell? ⟨b, o + (j - 1) * 4 + 2, none⟩ = some (.int .i64 g.len) ∧ wr.cell? ⟨b, o + (j - 1) * 4 + 3, none⟩ = some (.int .i64 g.risk) := by
                intro hj0
                obtain ⟨g, hgj⟩ := get_of (k := j - 1) hF.len (by omega)
                exact ⟨g, hgj, bl_cell hbw (hc (j - 1) g hgj 0 _ rfl), bl_cell hbw (hc (j - 1) g hgj 1 _ rfl), bl_cell hbw (hc (j - 1) g hgj 2 _ rfl), bl_cell hbw (hc (j - 1) g hgj 3 _ rfl)⟩
              clear hc g0 g1
              go_wp2
              have C0 : ∀ w', Cls wr w' → w'.cell? ⟨w.heap.size, 0, none⟩ = some (.slice A n c) := fun _ h => h.cell c0
              have C1 : ∀ w', Cls wr w' → w'.cell? ⟨w.heap.size, 1, none⟩ = some (.slice (some ⟨b, o, none⟩) m d) := fun _ h => h.cell c1
              have T0 : ∀ w', Cls wr w' → w'.cell? ⟨b, o + j * 4, none⟩ = some (.int .i64 f.a) := fun _ h => h.cell f0
              have T1 : ∀ w', Cls wr w' → w'.cell? ⟨b, o + j * 4 + 1, none⟩ = some (.int .i64 f.b) := fun _ h => h.cell f1
              have T2 : ∀ w', Cls wr w' → w'.cell? ⟨b, o + j * 4 + 2, none⟩ = some (.int .i64 f.len) := fun _ h => h.cell f2
              have T3 : ∀ w', Cls wr w' → w'.cell? ⟨b, o + j * 4 + 3, none⟩ = some (.int .i64 f.risk) := fun _ h => h.cell f3
              clear c0 c1 f0 f1 f2 f3
              have i0 : (j : Int) < (m : Int) := by omega
              have hfat : fibAt n fs j = (fibB n f && (j == 0 || decide (cmpFib (fs.getD (j - 1) default) f ≤ 0))) := by unfold fibAt; rw [getD_of hfj]
              clear hfj
              by_cases hok : fibB n f = true
              · by_cases hj0 : j = 0
                · have HY : Hid (allTo (fibAt n fs) (j + 1)) := allTo_succ hall (by rw [hfat, hok, hj0]; rfl)
                  have e6 : decide (0 < j) = false := by simp; omega
                  clear hfat hg hj0
                  refine region_cls (by kernel_rfl) (by kernel_rfl) ?_
                  repeat (first
                    | ((with_reducible refine quiet_pos ?_ (fun K hK => ?_))
                       · rfl
                       apply Exists.intro
                       refine ⟨fun w' hw' => ?_, ?_⟩
                       · go_simp
                         first
                           | with_reducible rfl
                           | (go_at_call 93; exact hw'.call (l2Fiber_any f n _ hn))
                       simp only [Act.put, List.setIfInBounds_toArray, List.set_cons_zero, List.set_cons_succ]
                       refine hK _ ?_; clear hK K)
                    | ((with_reducible refine quiet_neg ?_ (fun K hK => ?_))
                       · rfl
                       simp only [Act.put, List.setIfInBounds_toArray, List.set_cons_zero, List.set_cons_succ]
                       refine hK _ ?_; clear hK K))
                  with_reducible refine wpQuiet_nil ?_
                  intro w3 hw3
                  go_wp2
                  go_roundw
                  case rel => exact ⟨j + 1, by omega, by go_num, HY, bl_then hb hw3⟩
                  case measure => simp [intOf]; omega
                · obtain ⟨g, hgj, q0, q1, q2, q3⟩ := hg (by omega)
                  have e6 : decide (0 < j) = true := by simp; omega
                  have hsf := hid (smallF_of hn hok)
                  have hsg : Hid (smallF g) := by
                    refine smallF_of hn ?_
                    have := hall.out (j - 1) (by omega)
                    unfold fibAt at this
                    rw [getD_of hgj, Bool.and_eq_true] at this
                    exact this.1
                  have Q0 : ∀ w', Cls wr w' → w'.cell? ⟨b, o + (j - 1) * 4, none⟩ = some (.int .i64 g.a) := fun _ h => h.cell q0
                  have Q1 : ∀ w', Cls wr w' → w'.cell? ⟨b, o + (j - 1) * 4 + 1, none⟩ = some (.int .i64 g.b) := fun _ h => h.cell q1
                  have Q2 : ∀ w', Cls wr w' → w'.cell? ⟨b, o + (j - 1) * 4 + 2, none⟩ = some (.int .i64 g.len) := fun _ h => h.cell q2
                  have Q3 : ∀ w', Cls wr w' → w'.cell? ⟨b, o + (j - 1) * 4 + 3, none⟩ = some (.int .i64 g.risk) := fun _ h => h.cell q3
                  clear q0 q1 q2 q3
                  rw [getD_of hgj] at hfat
                  have i1 : IntKind.i64.wrap ((j : Int) - 1) = (j : Int) - 1 := IntWalk.i64_in _ (by omega)
                  have i2 : (0 : Int) ≤ (j : Int) - 1 := by omega
                  have i3 : ((j : Int) - 1).toNat = j - 1 := by omega
                  have i4 : (j : Int) - 1 < (m : Int) := by omega
                  have i5 : (1 : Int) ≤ (j : Int) := by omega
                  have i6 : 1 ≤ j := by omega
                  by_cases hcmp : befF g f ≤ 0
                  · have HY : Hid (allTo (fibAt n fs) (j + 1)) := allTo_succ hall (by rw [hfat, hok]; simp [(befF_le g f).1 hcmp])
                    have e7 : decide (0 < befF g f) = false := by simp; omega
                    clear hfat hg hcmp hgj
                    refine region_cls (by kernel_rfl) (by kernel_rfl) ?_
                    repeat (first
                      | ((with_reducible refine quiet_pos ?_ (fun K hK => ?_))
                         · rfl
                         apply Exists.intro
                         refine ⟨fun w' hw' => ?_, ?_⟩
                         · go_simp
                           first
                             | with_reducible rfl
                             | (go_at_call 93; exact hw'.call (l2Fiber_any f n _ hn))
                             | (go_at_call 94; exact hw'.call (l2Before_any g f _ hsg.out hsf.out))
                         simp only [Act.put, List.setIfInBounds_toArray, List.set_cons_zero, List.set_cons_succ]
                         refine hK _ ?_; clear hK K)
                      | ((with_reducible refine quiet_neg ?_ (fun K hK => ?_))
                         · rfl
                         simp only [Act.put, List.setIfInBounds_toArray, List.set_cons_zero, List.set_cons_succ]
                         refine hK _ ?_; clear hK K))
                    with_reducible refine wpQuiet_nil ?_
                    intro w3 hw3
                    go_wp2
                    go_roundw
                    case rel => exact ⟨j + 1, by omega, by go_num, HY, bl_then hb hw3⟩
                    case measure => simp [intOf]; omega
                  · have HN : Hid (goodB xs fs = false) := goodB_fibAt (by rw [HLF.out]; exact hlt) (by rw [HLX.out, hfat, hok]; simp [hj0, show ¬ cmpFib g f ≤ 0 from fun h => hcmp ((befF_le g f).2 h)])
                    have e7 : decide (0 < befF g f) = true := by simp; omega
                    clear hfat hg hcmp hgj
                    refine region_cls (by kernel_rfl) (by kernel_rfl) ?_
                    repeat (first
                      | ((with_reducible refine quiet_pos ?_ (fun K hK => ?_))
                         · rfl
                         apply Exists.intro
                         refine ⟨fun w' hw' => ?_, ?_⟩
                         · go_simp
                           first
                             | with_reducible rfl
                             | (go_at_call 93; exact hw'.call (l2Fiber_any f n _ hn))
                             | (go_at_call 94; exact hw'.call (l2Before_any g f _ hsg.out hsf.out))
                         simp only [Act.put, List.setIfInBounds_toArray, List.set_cons_zero, List.set_cons_succ]
                         refine hK _ ?_; clear hK K)
                      | ((with_reducible refine quiet_neg ?_ (fun K hK => ?_))
                         · rfl
                         simp only [Act.put, List.setIfInBounds_toArray, List.set_cons_zero, List.set_cons_succ]
                         refine hK _ ?_; clear hK K))
                    with_reducible refine wpQuiet_nil ?_
                    intro w3 hw3
                    go_wp2
                    go_ret
                    exact ⟨ret_bool HN.out.symm, bl_then hbw hw3⟩
              · have hok' : fibB n f = false := by simpa using hok
                have HN : Hid (goodB xs fs = false) := goodB_fibAt (by rw [HLF.out]; exact hlt) (by rw [HLX.out, hfat, hok']; rfl)
                clear hfat hg hok
                refine region_cls (by kernel_rfl) (by kernel_rfl) ?_
                repeat (first
                  | ((with_reducible refine quiet_pos ?_ (fun K hK => ?_))
                     · rfl
                     apply Exists.intro
                     refine ⟨fun w' hw' => ?_, ?_⟩
                     · go_simp
                       first
                         | with_reducible rfl
                         | (go_at_call 93; exact hw'.call (l2Fiber_any f n _ hn))
                     simp only [Act.put, List.setIfInBounds_toArray, List.set_cons_zero, List.set_cons_succ]
                     refine hK _ ?_; clear hK K)
                  | ((with_reducible refine quiet_neg ?_ (fun K hK => ?_))
                     · rfl
                     simp only [Act.put, List.setIfInBounds_toArray, List.set_cons_zero, List.set_cons_succ]
                     refine hK _ ?_; clear hK K))
                with_reducible refine wpQuiet_nil ?_
                intro w3 hw3
                go_wp2
                go_ret
                exact ⟨ret_bool HN.out.symm, bl_then hbw hw3⟩
            · have hfibs : Hid (allTo (fibAt n fs) fs.length) := by obtain rfl : j = m := (by omega); rw [HLF.out]; exact hall.out
              have HR := hid (goodB_all R1.out R2.out hnames.out (by rw [HLX.out]; exact hfibs.out))
              clear hall g0 g1
              go_wp2
              go_ret
              exact ⟨ret_bool HR.out.symm, hbw⟩
    · have HN : Hid (goodB xs fs = false) := goodB_fib (by rw [hlf]; simpa using r2)
      have r3 : decide ((14 : Int) < (m : Int)) = true := by simp; omega
      have r4 : decide (14 < m) = true := by simp; omega
      clear hlx hlf
      go_enter Try.func76, Try.ntmps76
      go_wp2_with (go_at_call 87; refine (l1In_any _ _ _ _).mono ?_; rintro e w' ⟨rfl, rfl⟩)
      go_ret
      exact ⟨ret_bool HN.out.symm, bl_alloc (Below.refl _ _) _⟩
  · have r1' : inB 2 8 n = false := by simpa using r1
    have HN : Hid (goodB xs fs = false) := goodB_len (by rw [hlx]; unfold inB at r1'; simp only [decide_eq_false_iff_not] at r1' ⊢; omega)
    clear hlx hlf r1
    go_enter Try.func76, Try.ntmps76
    go_wp2_with (go_at_call 87; refine (l1In_any _ _ _ _).mono ?_; rintro e w' ⟨rfl, rfl⟩)
    go_ret
    exact ⟨ret_bool HN.out.symm, bl_alloc (Below.refl _ _) _⟩
end Go.Proofs.Ytjklphlgmlomjaa
/- toStringS, walked: a new row that holds the same strings. Conditions: at most 1048576 of them. -/
namespace Go.Proofs.Ytjklphlgmlomjaa
open Go.RowKit
theorem str_info : (Try.prog.info? 9).map (fun i => (i.zero, i.size, i.bytes)) = some (some (.string ByteArray.empty), 1, 16) := by kernel_rfl
set_option maxRecDepth 100000 in
theorem toStringS_any {B n c : Nat} {A : Option Addr} {xs : List ByteArray} (w : World) (hA : Sees elStr w B A n xs) (hn : n ≤ 1048576) :
    Calls Try.prog 60 #[.slice A n c] w fun e w' => ∃ v, e = .returned v ∧ Owns elStr w' w.heap.size 9 v xs ∧ Below w.heap.size w w' := by
  obtain ⟨i0, hi, hz0, hz1, hz2⟩ := info_parts str_info
  have hmk := fun W => make_n (P := Try.prog) Try.underlying22 hi hz0 (n := n) (by rw [hz2]; omega) (by omega) W
  rw [hz1] at hmk
  clear hi hz0 hz1 hz2
  go_enter Try.func60, Try.ntmps60
  go_wp2
  have hb0 := bl_alloc (Below.refl w.heap.size w) (.cells (madeCells #[.string ByteArray.empty] n) 9)
  have hk0 : Hid (Blk (w.alloc (.cells (madeCells #[.string ByteArray.empty] n) 9)) w.heap.size 9 (madeCells #[.string ByteArray.empty] n)) := Blk.new _ _ _
  have hs0 : Hid ((madeCells #[.string ByteArray.empty] n).size = n) := size_madeCells _ _
  clear hmk
  go_loopw [4] (fun i wr => ∃ (k : Nat) (cur : Array Value), k ≤ n ∧ i = .int .i64 k ∧ Hid (Blk wr w.heap.size 9 cur) ∧ Hid (cur.size = n) ∧ Hid (Filled elStr cur xs k) ∧ Below w.heap.size w wr) (fun i _ => n - (intOf i).toNat)
  case atStart => exact ⟨0, _, Nat.zero_le _, rfl, hk0, hs0, Filled.zero _ _ _, hb0⟩
  case round =>
    clear hb0 hk0 hs0
    obtain ⟨k, cur, hk, rfl, hblk, hsz, hfill, hb⟩ := hrel
    by_cases hlt : k < n
    · obtain ⟨b, o, rfl, _, hc⟩ := hA.at_ hlt
      obtain ⟨x, hxk⟩ : ∃ x, xs[k]? = some x := ⟨xs[k]'(by rw [hA.len]; exact hlt), List.getElem?_eq_getElem _⟩
      have hcx := bl_cell hb (hc k x hxk 0 _ rfl)
      simp only [elStr, Nat.mul_one, Nat.add_zero] at hcx
      obtain ⟨u, hu⟩ := hblk.out.cell_ (i := k) (by rw [hsz.out]; exact hlt)
      have hfz := hblk.out.frozen k
      have HB := hid (hblk.out.set k (.string x))
      have HS : Hid ((cur.setIfInBounds k (.string x)).size = n) := by rw [Array.size_setIfInBounds]; exact hsz
      have HF : Hid (Filled elStr (cur.setIfInBounds k (.string x)) xs (k + 1)) := by
        refine hfill.out.step hxk (fun i hi => ?_) (fun i u hu => ?_)
        · rw [Array.getElem?_setIfInBounds_ne (by simp [elStr] at hi; omega)]
        · simp [elStr] at hu ⊢
          obtain ⟨hi, rfl⟩ := List.getElem?_eq_some_iff.1 hu
          have : i = 0 := by simpa using hi
          subst this
          simp [hsz.out, hlt]
      clear hc hxk hblk hsz hfill
      go_wp2
      go_roundw
      case rel => exact ⟨k + 1, _, by omega, by go_num, HB, HS, HF, bl_set hb _ (Nat.le_refl _)⟩
      case measure => simp [intOf]; omega
    · go_wp2
      go_ret
      have hkn : k = n := by omega
      exact ⟨_, rfl, Owns.of_filled hblk.out (Nat.le_refl _) hA.len (by rw [hsz.out]; exact (Nat.mul_one n).symm) (by simp only [maxLen]; omega) (by rw [← hkn]; exact hfill.out), hb⟩
end Go.Proofs.Ytjklphlgmlomjaa
/- toFiber and toFiberS, walked: a new row that holds the same fibers. Conditions: at most 1048576 of them. -/
namespace Go.Proofs.Ytjklphlgmlomjaa
open Go.RowKit
set_option maxRecDepth 100000 in
theorem toFiber_any (f : Fib) (w : World) :
    Calls Try.prog 46 #[fibV f] w fun e w' => e = .returned (fibV f) ∧ Below w.heap.size w w' := by
  obtain ⟨a, b, l, r⟩ := f
  unfold fibV
  go_enter Try.func46, Try.ntmps46
  go_wp2
  refine bodyPost_ret (v := .agg #[.int .i64 a, .int .i64 b, .int .i64 l, .int .i64 r]) (by simp [results, Try.results46, go_sem]) rfl ⟨rfl, ?_⟩
  repeat (first | exact Below.refl _ _ | apply Below.drew | apply bl_alloc)
theorem fib_info : (Try.prog.info? 64).map (fun i => (i.zero, i.size, i.bytes)) = some (some (.agg #[.int .i64 0, .int .i64 0, .int .i64 0, .int .i64 0]), 4, 32) := by kernel_rfl
set_option maxHeartbeats 1000000 in
set_option maxRecDepth 100000 in
theorem toFiberS_any {B n c : Nat} {A : Option Addr} {xs : List Fib} (w : World) (hA : Sees elFib w B A n xs) (hn : n ≤ 1048576) :
    Calls Try.prog 61 #[.slice A n c] w fun e w' => ∃ v, e = .returned v ∧ Owns elFib w' w.heap.size 64 v xs ∧ Below w.heap.size w w' := by
  obtain ⟨i0, hi, hz0, hz1, hz2⟩ := info_parts fib_info
  have hmk := fun W => make_n (P := Try.prog) Try.underlying33 hi hz0 (n := n) (by rw [hz2]; omega) (by omega) W
  rw [hz1] at hmk
  clear hi hz0 hz1 hz2
  go_enter Try.func61, Try.ntmps61
  go_wp2
  have hb0 := bl_alloc (Below.refl w.heap.size w) (.cells (madeCells #[.int .i64 0, .int .i64 0, .int .i64 0, .int .i64 0] (n * 4)) 64)
  have hk0 : Hid (Blk (w.alloc (.cells (madeCells #[.int .i64 0, .int .i64 0, .int .i64 0, .int .i64 0] (n * 4)) 64)) w.heap.size 64 (madeCells #[.int .i64 0, .int .i64 0, .int .i64 0, .int .i64 0] (n * 4))) := Blk.new _ _ _
  have hs0 : Hid ((madeCells #[.int .i64 0, .int .i64 0, .int .i64 0, .int .i64 0] (n * 4)).size = n * 4) := size_madeCells _ _
  clear hmk
  go_loopw [4] (fun i wr => ∃ (k : Nat) (cur : Array Value), k ≤ n ∧ i = .int .i64 k ∧ Hid (Blk wr w.heap.size 64 cur) ∧ Hid (cur.size = n * 4) ∧ Hid (Filled elFib cur xs k) ∧ Below w.heap.size w wr) (fun i _ => n - (intOf i).toNat)
  case atStart => exact ⟨0, _, Nat.zero_le _, rfl, hk0, hs0, Filled.zero _ _ _, hb0⟩
  case round =>
    clear hb0 hk0 hs0
    obtain ⟨k, cur, hk, rfl, hblk, hsz, hfill, hb⟩ := hrel
    by_cases hlt : k < n
    · obtain ⟨b, o, rfl, _, hc⟩ := hA.at_ hlt
      obtain ⟨f, hfk⟩ : ∃ x, xs[k]? = some x := ⟨xs[k]'(by rw [hA.len]; exact hlt), List.getElem?_eq_getElem _⟩
      have f0 := bl_cell hb (hc k f hfk 0 _ rfl)
      have f1 := bl_cell hb (hc k f hfk 1 _ rfl)
      have f2 := bl_cell hb (hc k f hfk 2 _ rfl)
      have f3 := bl_cell hb (hc k f hfk 3 _ rfl)
      simp only [elFib, Nat.add_zero] at f0 f1 f2 f3
      clear hc
      go_wp2_with fail
      refine (toFiber_any f _).mono ?_
      rintro e w2 ⟨rfl, hb2⟩
      have hblk2 := hid (hblk.out.below hb2 hblk.out.lt)
      obtain ⟨u0, hu0⟩ := hblk2.out.cell_ (i := k * 4) (by rw [hsz.out]; omega)
      obtain ⟨u1, hu1⟩ := hblk2.out.cell_ (i := k * 4 + 1) (by rw [hsz.out]; omega)
      obtain ⟨u2, hu2⟩ := hblk2.out.cell_ (i := k * 4 + 2) (by rw [hsz.out]; omega)
      obtain ⟨u3, hu3⟩ := hblk2.out.cell_ (i := k * 4 + 3) (by rw [hsz.out]; omega)
      have z0 := hblk2.out.frozen (k * 4)
      have z1 := hblk2.out.frozen (k * 4 + 1)
      have z2 := hblk2.out.frozen (k * 4 + 2)
      have z3 := hblk2.out.frozen (k * 4 + 3)
      have HB := hid (hblk2.out.put4 k f)
      have HS : Hid ((put4 cur k f).size = n * 4) := (put4_size _ _ _).trans hsz.out
      have HF := hid (hfill.out.put4 hfk (by rw [hsz.out]; omega))
      have hb3 := bl_set (bl_set (bl_set (bl_set (bl_then hb hb2) (p := ⟨w.heap.size, k * 4, none⟩) (.int .i64 f.a) (Nat.le_refl _)) (p := ⟨w.heap.size, k * 4 + 1, none⟩) (.int .i64 f.b) (Nat.le_refl _)) (p := ⟨w.heap.size, k * 4 + 2, none⟩) (.int .i64 f.len) (Nat.le_refl _)) (p := ⟨w.heap.size, k * 4 + 3, none⟩) (.int .i64 f.risk) (Nat.le_refl _)
      clear f0 f1 f2 f3 hblk hblk2 hsz hfill hfk
      unfold fibV
      go_wp2
      go_roundw
      case rel => exact ⟨k + 1, _, by omega, by go_num, HB, HS, HF, hb3⟩
      case measure => simp [intOf]; omega
    · go_wp2
      go_ret
      have hkn : k = n := by omega
      exact ⟨_, rfl, Owns.of_filled hblk.out (Nat.le_refl _) hA.len hsz.out (by simp only [maxLen]; omega) (by rw [← hkn]; exact hfill.out), hb⟩
end Go.Proofs.Ytjklphlgmlomjaa
/- toNetwork, walked: a network in new memory. Conditions: at most 1048576 names and fibers. -/
namespace Go.Proofs.Ytjklphlgmlomjaa
open Go.RowKit
set_option maxHeartbeats 1000000 in
set_option maxRecDepth 100000 in
theorem toNetwork_any {B n c m d : Nat} {A A' : Option Addr} {xs : List ByteArray} {fs : List Fib} (w : World) (hA : Sees elStr w B A n xs) (hF : Sees elFib w B A' m fs) (hB : B ≤ w.heap.size) (hn : n ≤ 1048576) (hm : m ≤ 1048576) :
    Calls Try.prog 18 #[.agg #[.slice A n c, .slice A' m d]] w fun e w' => ∃ v v', e = .returned (.agg #[v, v']) ∧ Owns elStr w' w.heap.size 9 v xs ∧ Owns elFib w' w.heap.size 64 v' fs ∧ Below w.heap.size w w' := by
  go_enter Try.func18, Try.ntmps18
  go_wp2_with fail
  have hb0 : Below w.heap.size w (((w.alloc (.cells #[.slice A n c, .slice A' m d] 25)).alloc (.cells #[.slice none 0 0, .slice none 0 0] 35)).alloc (.cells #[.slice none 0 0, .slice none 0 0] 35)) := bl_alloc (bl_alloc (bl_alloc (Below.refl _ _) _) _) _
  have b1 : Blk (((w.alloc (.cells #[.slice A n c, .slice A' m d] 25)).alloc (.cells #[.slice none 0 0, .slice none 0 0] 35)).alloc (.cells #[.slice none 0 0, .slice none 0 0] 35)) w.heap.size 25 #[.slice A n c, .slice A' m d] := ((Blk.new _ _ _).alloc _).alloc _
  have b2 : Blk (((w.alloc (.cells #[.slice A n c, .slice A' m d] 25)).alloc (.cells #[.slice none 0 0, .slice none 0 0] 35)).alloc (.cells #[.slice none 0 0, .slice none 0 0] 35)) (w.heap.size + 1) 35 #[.slice none 0 0, .slice none 0 0] := by
    have := (Blk.new (w.alloc (.cells #[.slice A n c, .slice A' m d] 25)) 35 #[.slice none 0 0, .slice none 0 0]).alloc (.cells #[.slice none 0 0, .slice none 0 0] 35)
    simpa using this
  have b3 : Blk (((w.alloc (.cells #[.slice A n c, .slice A' m d] 25)).alloc (.cells #[.slice none 0 0, .slice none 0 0] 35)).alloc (.cells #[.slice none 0 0, .slice none 0 0] 35)) (w.heap.size + 1 + 1) 35 #[.slice none 0 0, .slice none 0 0] := by
    have := Blk.new ((w.alloc (.cells #[.slice A n c, .slice A' m d] 25)).alloc (.cells #[.slice none 0 0, .slice none 0 0] 35)) 35 #[.slice none 0 0, .slice none 0 0]
    simpa using this
  have hA0 := hA.below (hb0.mono hB)
  have hF0 := hF.below (hb0.mono hB)
  generalize ((w.alloc (.cells #[.slice A n c, .slice A' m d] 25)).alloc (.cells #[.slice none 0 0, .slice none 0 0] 35)).alloc (.cells #[.slice none 0 0, .slice none 0 0] 35) = w0 at *
  refine (toStringS_any (xs := xs) w0 hA0 hn).mono ?_
  rintro e w1 ⟨v, he, hown, hb1⟩
  obtain ⟨A1, c1, hv, _⟩ := hown.form
  rw [hA.len] at hv
  subst hv; subst he
  have b1' := bl_at hb1 b1.lt b1
  have b2' := bl_at hb1 b2.lt b2
  have b3' := bl_at hb1 b3.lt b3
  have hF1 := hF0.below (hb1.mono (Nat.le_trans hB hb0.size))
  have hbw1 := bl_then hb0 hb1
  have hown1 := hown.base hb0.size
  have q0 := b3'.cell 0
  have q1 := b1'.cell 1
  have z0 := b3'.frozen 0
  simp at q0 q1
  have b4 := b3'.set 0 (.slice A1 n c1)
  have b1s := b1'.far (p := ⟨w.heap.size + 1 + 1, 0, none⟩) (by show w.heap.size ≠ w.heap.size + 1 + 1; omega) (.slice A1 n c1)
  have b2s := b2'.far (p := ⟨w.heap.size + 1 + 1, 0, none⟩) (by show w.heap.size + 1 ≠ w.heap.size + 1 + 1; omega) (.slice A1 n c1)
  have hbs := bl_set hbw1 (p := ⟨w.heap.size + 1 + 1, 0, none⟩) (.slice A1 n c1) (by show w.heap.size ≤ w.heap.size + 1 + 1; omega)
  have hF2 : Sees elFib (w1.setCell ⟨w.heap.size + 1 + 1, 0, none⟩ (.slice A1 n c1)) B A' m fs := hF1.keep fun p hp => World.cell?_setCell_other w1 _ p _ (fun e => by subst e; simp only at hp; omega)
  have hos := hown.far (p := ⟨w.heap.size + 1 + 1, 0, none⟩) (b3.lt) (.slice A1 n c1)
  go_wp2_with fail
  have hw0 := hb0.size
  have l3 := b3.lt
  clear q0 q1 z0 b1' b2' b3' hF1 hown hown1 hb1 b1 b2 b3 hA0 hF0 hb0 hbw1
  generalize w1.setCell ⟨w.heap.size + 1 + 1, 0, none⟩ (.slice A1 n c1) = w3 at *
  refine (toFiberS_any (xs := fs) w3 hF2 hm).mono ?_
  rintro e w4 ⟨v', he, hown', hb4⟩
  obtain ⟨A2, c2, hv, _⟩ := hown'.form
  rw [hF.len] at hv
  subst hv; subst he
  have b2' := bl_at hb4 b2s.lt b2s
  have b3' := bl_at hb4 b4.lt b4
  have hb5 := bl_then hbs hb4
  have l4 := b4.lt
  have l5 := hbs.size
  have ho1 := (((((hos.below hb4).far (p := ⟨w.heap.size + 1 + 1, 1, none⟩) l3 (.slice A2 m c2)).far (p := ⟨w.heap.size + 1, 0, none⟩) (by show w.heap.size + 1 < _; omega) (.slice A1 n c1)).far (p := ⟨w.heap.size + 1, 1, none⟩) (by show w.heap.size + 1 < _; omega) (.slice A2 m c2))).base (base' := w.heap.size) hw0
  have ho2 := ((((hown'.far (p := ⟨w.heap.size + 1 + 1, 1, none⟩) l4 (.slice A2 m c2)).far (p := ⟨w.heap.size + 1, 0, none⟩) (by show w.heap.size + 1 < _; omega) (.slice A1 n c1)).far (p := ⟨w.heap.size + 1, 1, none⟩) (by show w.heap.size + 1 < _; omega) (.slice A2 m c2))).base (base' := w.heap.size) l5
  have hb6 := bl_set (bl_set (bl_set hb5 (p := ⟨w.heap.size + 1 + 1, 1, none⟩) (.slice A2 m c2) (by show w.heap.size ≤ w.heap.size + 1 + 1; omega)) (p := ⟨w.heap.size + 1, 0, none⟩) (.slice A1 n c1) (by show w.heap.size ≤ w.heap.size + 1; omega)) (p := ⟨w.heap.size + 1, 1, none⟩) (.slice A2 m c2) (by show w.heap.size ≤ w.heap.size + 1; omega)
  clear b2s b4 hos hown' hF2 hbs hb4 b1s
  have q0 := b3'.cell 0
  have q1 := b3'.cell 1
  have q2 := b2'.cell 0
  have q3 := b2'.cell 1
  have z1 := b3'.frozen 1
  have z2 := b2'.frozen 0
  have z3 := b2'.frozen 1
  simp at q0 q1 q2 q3
  go_wp2_with fail
  exact bodyPost_ret (v := .agg #[.slice A1 n c1, .slice A2 m c2]) (by simp [results, Try.results18, go_sem, q2, q3]) rfl ⟨_, _, rfl, ho1, ho2, hb6⟩
/-- A network of the call's own. -/
def NetOwn (w : World) (base : Nat) (A : Option Addr) (n c : Nat) (A' : Option Addr) (m d : Nat) (xs : List ByteArray) (fs : List Fib) : Prop :=
  n ≤ c ∧ c ≤ maxLen ∧ m ≤ d ∧ d ≤ maxLen ∧ xs.length = n ∧ fs.length = m ∧ Owns elStr w base 9 (.slice A n c) xs ∧ Owns elFib w base 64 (.slice A' m d) fs
section
variable {w w' : World} {base n c m d : Nat} {A A' : Option Addr} {xs : List ByteArray} {fs : List Fib}
theorem NetOwn.below (h : NetOwn w base A n c A' m d xs fs) (hb : Below w.heap.size w w') : NetOwn w' base A n c A' m d xs fs :=
  let ⟨a, b, c, d, e, f, g, i⟩ := h; ⟨a, b, c, d, e, f, g.below hb, i.below hb⟩
theorem NetOwn.from_ {base' : Nat} (h : NetOwn w base A n c A' m d xs fs) (hb : base' ≤ base) : NetOwn w base' A n c A' m d xs fs :=
  let ⟨a, b, c, d, e, f, g, i⟩ := h; ⟨a, b, c, d, e, f, g.base hb, i.base hb⟩
theorem NetOwn.strs (h : NetOwn w base A n c A' m d xs fs) : Sees elStr w w.heap.size A n xs := by
  obtain ⟨_, _, _, _, e, _, g, _⟩ := h
  obtain ⟨A1, c1, hv, _, _, hs⟩ := g.form
  injection hv with h1 h2 h3; subst h1; rw [e] at hs; exact hs
theorem NetOwn.fibs (h : NetOwn w base A n c A' m d xs fs) : Sees elFib w w.heap.size A' m fs := by
  obtain ⟨_, _, _, _, _, f, _, i⟩ := h
  obtain ⟨A1, c1, hv, _, _, hs⟩ := i.form
  injection hv with h1 h2 h3; subst h1; rw [f] at hs; exact hs
end
theorem toNetwork_own {B n c m d : Nat} {A A' : Option Addr} {xs : List ByteArray} {fs : List Fib} (w : World) (hA : Sees elStr w B A n xs) (hF : Sees elFib w B A' m fs) (hB : B ≤ w.heap.size) (hn : n ≤ 1048576) (hm : m ≤ 1048576) :
    Calls Try.prog 18 #[.agg #[.slice A n c, .slice A' m d]] w fun e w' => ∃ A1 c1 A2 c2, e = .returned (.agg #[.slice A1 n c1, .slice A2 m c2]) ∧ NetOwn w' w.heap.size A1 n c1 A2 m c2 xs fs ∧ Below w.heap.size w w' := by
  refine (toNetwork_any w hA hF hB hn hm).mono ?_
  rintro e w' ⟨v, v', he, h1, h2, hb⟩
  obtain ⟨A1, c1, hv, a1, a2, _⟩ := h1.form
  obtain ⟨A2, c2, hv', b1, b2, _⟩ := h2.form
  rw [hA.len] at hv a1
  rw [hF.len] at hv' b1
  subst hv hv'
  exact ⟨A1, c1, A2, c2, he, ⟨a1, a2, b1, b2, hA.len, hF.len, h1, h2⟩, hb⟩
end Go.Proofs.Ytjklphlgmlomjaa
/- A network in memory, under one word; its two looks under that word. Conditions: none. -/
namespace Go.Proofs.Ytjklphlgmlomjaa
open Go.RowKit
/-- The value is a network that shows the names xs and the fibers fs. -/
def NetIs (w : World) (A : Option Addr) (n c : Nat) (A' : Option Addr) (m d : Nat) (xs : List ByteArray) (fs : List Fib) : Prop :=
  (n ≤ c ∧ n ≤ 1048576) ∧ (m ≤ d ∧ m ≤ 1048576) ∧ Sees elStr w w.heap.size A n xs ∧ Sees elFib w w.heap.size A' m fs ∧ ∀ x ∈ xs, x.size ≤ maxLen
section
variable {w w' : World} {n c m d : Nat} {A A' : Option Addr} {xs : List ByteArray} {fs : List Fib}
theorem NetIs.grow (h : NetIs w A n c A' m d xs fs) (hb : Below w.heap.size w w') : NetIs w' A n c A' m d xs fs :=
  ⟨h.1, h.2.1, (h.2.2.1.grow hb).more hb.size, (h.2.2.2.1.grow hb).more hb.size, h.2.2.2.2⟩
theorem NetIs.strs (h : NetIs w A n c A' m d xs fs) : Sees elStr w w.heap.size A n xs := h.2.2.1
theorem NetIs.fibs (h : NetIs w A n c A' m d xs fs) : Sees elFib w w.heap.size A' m fs := h.2.2.2.1
theorem NetIs.nle (h : NetIs w A n c A' m d xs fs) : n ≤ 1048576 := h.1.2
theorem NetIs.mle (h : NetIs w A n c A' m d xs fs) : m ≤ 1048576 := h.2.1.2
theorem NetIs.xlen (h : NetIs w A n c A' m d xs fs) : xs.length = n := h.2.2.1.len
theorem NetIs.flen (h : NetIs w A n c A' m d xs fs) : fs.length = m := h.2.2.2.1.len
theorem NetOwn.is {base : Nat} (h : NetOwn w base A n c A' m d xs fs) (hn : n ≤ 1048576) (hm : m ≤ 1048576) (hx : ∀ x ∈ xs, x.size ≤ maxLen) : NetIs w A n c A' m d xs fs :=
  ⟨⟨h.1, hn⟩, ⟨h.2.2.1, hm⟩, h.strs, h.fibs, hx⟩
end
theorem validN {n c m d : Nat} {A A' : Option Addr} {xs : List ByteArray} {fs : List Fib} (w : World) (h : NetIs w A n c A' m d xs fs) :
    Calls Try.prog 78 #[.agg #[.slice A n c, .slice A' m d]] w fun e w' => e = .returned (.bool (goodB xs fs)) ∧ Below w.heap.size w w' :=
  isValid_any w h.strs h.fibs (Nat.le_refl _) h.nle h.mle h.1.1 h.2.1.1 h.2.2.2.2
theorem goodN {n c m d : Nat} {A A' : Option Addr} {xs : List ByteArray} {fs : List Fib} (w : World) (h : NetIs w A n c A' m d xs fs) :
    Calls Try.prog 76 #[.agg #[.slice A n c, .slice A' m d]] w fun e w' => e = .returned (.bool (goodB xs fs)) ∧ Below w.heap.size w w' :=
  l2Good_any w h.strs h.fibs (Nat.le_refl _) h.nle h.mle h.2.2.2.2
theorem goodB_bd {xs : List ByteArray} {fs : List Fib} (h : goodB xs fs = true) : 2 ≤ xs.length ∧ xs.length ≤ 8 ∧ fs.length ≤ 14 := by
  unfold goodB at h; simp at h; omega
theorem goodB_fibB {xs : List ByteArray} {fs : List Fib} (h : goodB xs fs = true) {f : Fib} (hf : f ∈ fs) : fibB xs.length f = true := by
  obtain ⟨k, hk, e⟩ := List.mem_iff_getElem.1 hf
  unfold goodB at h
  rw [Bool.and_eq_true] at h
  have := allB_iff.1 h.2 k hk
  unfold fibAt at this
  rw [Bool.and_eq_true, getD_of (x := f) (by rw [List.getElem?_eq_getElem hk, e])] at this
  exact this.1
end Go.Proofs.Ytjklphlgmlomjaa
/- The risk group of a fiber: the reference's, walked. Conditions: none. -/
namespace Go.Proofs.Ytjklphlgmlomjaa
open Go.RowKit
variable {n c m d : Nat} {A A' : Option Addr} {xs : List ByteArray} {fs : List Fib}
def riskF (fs : List Fib) (j : Nat) : Int := (fs.getD j ⟨0, 0, 0, 0⟩).risk
/-- The fibers that fail together with fiber i. -/
def groupL (fs : List Fib) (i : Nat) : List Int := if riskF fs i == 0 then [(i : Int)] else idsTo (fun j => riskF fs j == riskF fs i) fs.length
theorem riskF_of {j : Nat} {f : Fib} (h : fs[j]? = some f) : riskF fs j = f.risk := by unfold riskF; rw [getD_of h]
theorem filled_int1 (s : Int) : Filled elInt #[.int .i64 s] [s] 1 := by
  intro j x hj hx i u hu
  obtain rfl : j = 0 := by omega
  simp at hx; subst hx
  match i, hu with
  | 0, hu => simp [elInt] at hu; subst hu; rfl
set_option maxHeartbeats 1000000 in
set_option maxRecDepth 100000 in
theorem l2Group_any (i : Nat) (w : World) (h : NetIs w A n c A' m d xs fs) (hi' : i < m) :
    Calls Try.prog 125 #[.agg #[.slice A n c, .slice A' m d], .int .i64 i] w fun e w' => ∃ s : Sl, e = .returned (slV s) ∧ Owns elInt w' w.heap.size 3 (slV s) (groupL fs i) ∧ Below w.heap.size w w' := by
  obtain ⟨i0, hi, hz0, hz1, hz2⟩ := info_parts int_info
  have hb0 := bl_alloc (Below.refl w.heap.size w) (.cells #[.slice A n c, .slice A' m d] 35)
  have hx0 : Blk (w.alloc (.cells #[.slice A n c, .slice A' m d] 35)) w.heap.size 35 #[.slice A n c, .slice A' m d] := Blk.new _ _ _
  have h0 := h.grow hb0
  have hlf := h.flen
  have hm := h.mle
  have hsz0 : (w.alloc (.cells #[.slice A n c, .slice A' m d] 35)).heap.size = w.heap.size + 1 := by simp
  have q1 := hx0.cell 1
  simp at q1
  obtain ⟨fi, hfi⟩ := get_of (k := i) hlf hi'
  obtain ⟨b, o, rfl, _, hc⟩ := h0.fibs.at_ hi'
  have fr := hc i fi hfi 3 _ rfl
  simp only [elFib] at fr
  cases g : (fi.risk == 0)
  · have H : Hid (groupL fs i = idsTo (fun j => riskF fs j == fi.risk) m) := by unfold Hid groupL; rw [riskF_of hfi, g, hlf]; rfl
    have hoe : Hid (Owns elInt ((w.alloc (.cells #[.slice A n c, .slice (some ⟨b, o, none⟩) m d] 35)).alloc (.cells #[] 3)) (w.heap.size + 1) 3 (.slice (some ⟨w.heap.size + 1, 0, none⟩) 0 0) (idsTo (fun j => riskF fs j == fi.risk) 0)) :=
      Owns.of_blk (n := 0) (cap := 0) (cur := #[]) (by have := Blk.new (w.alloc (.cells #[.slice A n c, .slice (some ⟨b, o, none⟩) m d] 35)) 3 #[]; simpa using this) (Nat.le_refl _) rfl (Nat.le_refl _) rfl (by decide) (Filled.zero _ _ _)
    have hbe : Below (w.alloc (.cells #[.slice A n c, .slice (some ⟨b, o, none⟩) m d] 35)).heap.size (w.alloc (.cells #[.slice A n c, .slice (some ⟨b, o, none⟩) m d] 35)) ((w.alloc (.cells #[.slice A n c, .slice (some ⟨b, o, none⟩) m d] 35)).alloc (.cells #[] 3)) := bl_alloc (Below.refl _ _) _
    have HC := hid hc
    clear hfi hc
    go_enter Try.func125, Try.ntmps125
    go_wp2_with fail
    generalize hw0 : w.alloc (.cells #[.slice A n c, .slice (some ⟨b, o, none⟩) m d] 35) = w0 at *
    go_loopw [5, 6] (fun v i wr => ∃ k : Nat, k ≤ m ∧ i = .int .i64 k ∧ Hid (Owns elInt wr (w.heap.size + 1) 3 v (idsTo (fun j => riskF fs j == fi.risk) k)) ∧ Below w0.heap.size w0 wr) (fun _ i _ => m - (intOf i).toNat)
    case atStart => exact ⟨0, Nat.zero_le _, rfl, hoe, hbe⟩
    case round =>
      clear hbe hoe q1
      obtain ⟨k, hk, rfl, hown, hb⟩ := hrel
      have q1 := (hx0.below hb hx0.lt).cell 1
      simp at q1
      by_cases hlt : k < m
      · obtain ⟨f, hfk⟩ := get_of (k := k) hlf hlt
        have f3 := bl_cell hb (HC.out k f hfk 3 _ rfl)
        have fr' := bl_cell hb fr
        simp only [elFib] at f3
        have T0 : ∀ w', Cls wr w' → w'.cell? ⟨b, o + k * 4 + 3, none⟩ = some (.int .i64 f.risk) := fun _ h => h.cell f3
        have T1 : ∀ w', Cls wr w' → w'.cell? ⟨b, o + i * 4 + 3, none⟩ = some (.int .i64 fi.risk) := fun _ h => h.cell fr'
        have Q1 : ∀ w', Cls wr w' → w'.cell? ⟨w.heap.size, 1, none⟩ = some (.slice (some ⟨b, o, none⟩) m d) := fun _ h => h.cell q1
        have iz : (k : Int) < (m : Int) := by omega
        have iz2 : (i : Int) < (m : Int) := by omega
        have hp : Hid ((riskF fs k == fi.risk) = (f.risk == fi.risk)) := by unfold Hid; rw [riskF_of hfk]
        have hwz := hb.size
        have hll := idsTo_len (fun j => riskF fs j == fi.risk) k
        clear hfk f3 fr'
        go_wp2
        refine region_cls (by kernel_rfl) (by kernel_rfl) ?_
        repeat (first
          | ((with_reducible refine quiet_pos ?_ (fun K hK => ?_))
             · rfl
             apply Exists.intro
             refine ⟨fun w' hw' => ?_, ?_⟩
             · go_simp
               with_reducible rfl
             simp only [Act.put, List.setIfInBounds_toArray, List.set_cons_zero, List.set_cons_succ]
             refine hK _ ?_; clear hK K)
          | ((with_reducible refine quiet_neg ?_ (fun K hK => ?_))
             · rfl
             simp only [Act.put, List.setIfInBounds_toArray, List.set_cons_zero, List.set_cons_succ]
             refine hK _ ?_; clear hK K))
        with_reducible refine wpQuiet_nil ?_
        intro wz hwz'
        have hbZ := bl_then hb hwz'
        have hoZ : Hid (Owns elInt _ _ _ _ _) := hown.out.below hwz'
        have hzz := hwz'.size
        clear hown T0 T1 Q1 q1 hb
        cases g3 : (f.risk == fi.risk)
        · have HN : Hid (idsTo (fun j => riskF fs j == fi.risk) (k + 1) = idsTo (fun j => riskF fs j == fi.risk) k) := idsTo_no (hp.out.trans g3)
          have HO := hoZ
          rw [← HN.out] at HO
          clear hp hoZ
          go_wp2
          exact ⟨⟨k + 1, by omega, by go_num, HO, hbZ⟩, by simp [intOf]; omega⟩
        · have HN : Hid (idsTo (fun j => riskF fs j == fi.risk) (k + 1) = idsTo (fun j => riskF fs j == fi.risk) k ++ [(k : Int)]) := idsTo_yes (hp.out.trans g3)
          have hbG := bl_alloc hbZ (.cells #[.int .i64 k] 3)
          have hoG : Hid (Owns elInt _ _ _ _ _) := hoZ.out.below (bl_alloc (Below.refl _ _) (.cells #[.int .i64 k] 3))
          clear hp hoZ
          go_wp2_with (first
            | (at_builtin; refine wpList_append_own _ rfl _ _ 26 rfl (w.heap.size + 1) 3 i0 (.int .i64 0) 1 8 Try.underlying26 hi hz0 hz1 hz2 rfl (by decide) _ (idsTo (fun j => riskF fs j == fi.risk) k).length ((idsTo (fun j => riskF fs j == fi.risk) k).flatMap elInt.cells) rfl hoG.out ⟨_, 0, none⟩ 1 1 [.int .i64 k] rfl rfl (one_new _ _ _ (by simp)) (fun u hu => by simp at hu; subst hu; rfl) (by unfold maxLen; omega) (by omega) (by simp; omega) ?_)
            | go_in)
          intro v' w1 hown' hgrow _
          have HO : Hid (Owns elInt w1 (w.heap.size + 1) 3 v' (idsTo (fun j => riskF fs j == fi.risk) (k + 1))) := by unfold Hid; rw [HN.out]; exact Owns.appended hown'
          have hbN := bl_grown hbG hgrow (fun g hg => by have := (hoG.out.lies g hg).1; omega)
          clear hown' hgrow hoG hbG
          go_wp2
          go_roundw
          case rel => exact ⟨k + 1, by omega, by go_num, HO, hbN⟩
          case measure => simp [intOf]; omega
      · have hkm : k = m := by omega
        rw [hkm] at hown
        obtain ⟨Ao, co, rfl, _, _, _⟩ := hown.out.form
        clear hlt
        go_wp2
        go_ret
        exact ⟨⟨Ao, _, co⟩, rfl, by rw [H.out]; exact hown.out.base (by omega), hb0.trans (hb.mono (by omega))⟩
  · have H : Hid (groupL fs i = [(i : Int)]) := by unfold Hid groupL; rw [riskF_of hfi, g]; rfl
    clear hfi hc
    go_enter Try.func125, Try.ntmps125
    go_wp2_with fail
    go_ret
    exact ⟨⟨some ⟨w.heap.size + 1, 0, none⟩, 1, 1⟩, rfl, by rw [H.out]; exact Owns.of_blk (n := 1) (cap := 1) (cur := #[.int .i64 i]) (by have := Blk.new (w.alloc (.cells #[.slice A n c, .slice (some ⟨b, o, none⟩) m d] 35)) 3 #[.int .i64 i]; simpa using this) (Nat.le_succ _) rfl (Nat.le_refl _) rfl (by decide) (filled_int1 _), bl_alloc hb0 _⟩
end Go.Proofs.Ytjklphlgmlomjaa
/- impl.groups: the risk groups of a network, walked. Conditions: none. -/
namespace Go.Proofs.Ytjklphlgmlomjaa
open Go.RowKit
variable {n c m d : Nat} {A A' : Option Addr} {xs : List ByteArray} {fs : List Fib}
/-- The rows of the risks 1 .. t that some fiber bears. -/
def rkRow (fs : List Fib) (t : Nat) : List Int := idsTo (fun j => riskF fs j == ((t : Int) + 1)) fs.length
def rkTo (fs : List Fib) (t : Nat) : List (List Int) := ((List.range t).map (rkRow fs)).filter fun l => !l.isEmpty
theorem rkTo_zero (fs : List Fib) : rkTo fs 0 = [] := rfl
theorem rkTo_no {t : Nat} (h : rkRow fs t = []) : rkTo fs (t + 1) = rkTo fs t := by simp [rkTo, List.range_succ, List.filter_append, h]
theorem rkTo_yes {t : Nat} (h : rkRow fs t ≠ []) : rkTo fs (t + 1) = rkTo fs t ++ [rkRow fs t] := by simp [rkTo, List.range_succ, List.filter_append, h]
theorem rkTo_len (fs : List Fib) (t : Nat) : (rkTo fs t).length ≤ t := by
  unfold rkTo
  exact Nat.le_trans (List.length_filter_le _ _) (by simp)
/-- The rows of the fibers without a risk. -/
def zrTo (fs : List Fib) (k : Nat) : List (List Int) := (idsTo (fun j => riskF fs j == 0) k).map fun x => [x]
theorem zrTo_zero (fs : List Fib) : zrTo fs 0 = [] := rfl
theorem zrTo_no {k : Nat} (h : (riskF fs k == 0) = false) : zrTo fs (k + 1) = zrTo fs k := by unfold zrTo; rw [idsTo_no h]
theorem zrTo_yes {k : Nat} (h : (riskF fs k == 0) = true) : zrTo fs (k + 1) = zrTo fs k ++ [[(k : Int)]] := by unfold zrTo; rw [idsTo_yes h]; simp
theorem zrTo_len (fs : List Fib) (k : Nat) : (zrTo fs k).length ≤ k := by unfold zrTo; rw [List.length_map]; exact idsTo_len _ _
/-- All risk groups. -/
def groupsL (fs : List Fib) : List (List Int) := rkTo fs 9 ++ zrTo fs fs.length
set_option maxHeartbeats 2000000 in
set_option maxRecDepth 100000 in
theorem groups_any (w : World) (h : NetIs w A n c A' m d xs fs) :
    Calls Try.prog 86 #[.agg #[.slice A n c, .slice A' m d]] w fun e w' => ∃ s ss, e = .returned (slV s) ∧ OwnsSS w' w.heap.size (slV s) ss (groupsL fs) ∧ Below w.heap.size w w' := by
  obtain ⟨i0, hi, hz0, hz1, hz2⟩ := info_parts int_info
  obtain ⟨j0, hj, hy0, hy1, hy2⟩ := info_parts sl_info
  have hb0 := bl_alloc (Below.refl w.heap.size w) (.cells #[.slice A n c, .slice A' m d] 35)
  have hx0 : Blk (w.alloc (.cells #[.slice A n c, .slice A' m d] 35)) w.heap.size 35 #[.slice A n c, .slice A' m d] := Blk.new _ _ _
  have h0 := h.grow hb0
  have hlf := h.flen
  have hm := h.mle
  have hsz0 : (w.alloc (.cells #[.slice A n c, .slice A' m d] 35)).heap.size = w.heap.size + 1 := by simp
  have hbe : Below (w.alloc (.cells #[.slice A n c, .slice A' m d] 35)).heap.size (w.alloc (.cells #[.slice A n c, .slice A' m d] 35)) ((w.alloc (.cells #[.slice A n c, .slice A' m d] 35)).alloc (.cells #[] 26)) := bl_alloc (Below.refl _ _) _
  have hoe : Hid (OwnsSS ((w.alloc (.cells #[.slice A n c, .slice A' m d] 35)).alloc (.cells #[] 26)) (w.heap.size + 1) (.slice (some ⟨w.heap.size + 1, 0, none⟩) 0 0) [] (rkTo fs 0)) :=
    ⟨Owns.of_blk (E := elSl) (n := 0) (cap := 0) (cur := #[]) (by have := Blk.new (w.alloc (.cells #[.slice A n c, .slice A' m d] 35)) 26 #[]; simpa using this) (Nat.le_refl _) rfl (Nat.le_refl _) rfl (by decide) (Filled.zero _ _ _), rfl, fun i s r h1 => by simp at h1, fun i j s t g _ h1 => by simp at h1⟩
  go_enter Try.func86, Try.ntmps86
  go_wp2_with fail
  generalize hw0 : w.alloc (.cells #[.slice A n c, .slice A' m d] 35) = w0 at *
  go_loopw [3, 4] (fun v i wr => ∃ (t : Nat) (ss : List Sl), t ≤ 9 ∧ i = .int .i64 ((t : Int) + 1) ∧ Hid (OwnsSS wr (w.heap.size + 1) v ss (rkTo fs t)) ∧ Below w0.heap.size w0 wr) (fun _ i _ => 10 - (intOf i).toNat)
  case atStart => exact ⟨0, [], Nat.zero_le _, rfl, hoe, hbe⟩
  case round =>
    clear hbe hoe
    obtain ⟨t, ss, ht, rfl, hss, hb⟩ := hrel
    have q1 := (hx0.below hb hx0.lt).cell 1
    simp at q1
    have hwz := hb.size
    by_cases htl : t < 9
    · obtain ⟨wo, hwo⟩ : ∃ wo, wo = wr := ⟨_, rfl⟩
      subst hwo
      have hbi : Below wo.heap.size wo (wo.alloc (.cells #[] 3)) := bl_alloc (Below.refl _ _) _
      have hoi : Hid (Owns elInt (wo.alloc (.cells #[] 3)) wo.heap.size 3 (.slice (some ⟨wo.heap.size, 0, none⟩) 0 0) (idsTo (fun j => riskF fs j == ((t : Int) + 1)) 0)) :=
        Owns.of_blk (n := 0) (cap := 0) (cur := #[]) (Blk.new wo 3 #[]) (Nat.le_refl _) rfl (Nat.le_refl _) rfl (by decide) (Filled.zero _ _ _)
      have e9 : decide ((t : Int) + 1 ≤ 9) = true := decide_eq_true (by omega)
      have q2 := ((hx0.below hb hx0.lt).alloc (.cells #[] 3)).cell 1
      simp at q2
      go_wp2_with fail
      clear q1 q2
      go_loopw [5, 19] (fun v i wq => ∃ k : Nat, k ≤ m ∧ i = .int .i64 k ∧ Hid (Owns elInt wq wo.heap.size 3 v (idsTo (fun j => riskF fs j == ((t : Int) + 1)) k)) ∧ Below wo.heap.size wo wq) (fun _ i _ => m - (intOf i).toNat)
      case atStart => exact ⟨0, Nat.zero_le _, rfl, hoi, hbi⟩
      case round =>
        clear hbi hoi
        obtain ⟨k, hk, rfl, hown, hq⟩ := hrel
        have hbq := bl_then hb hq
        have zq := hq.size
        by_cases hlt : k < m
        · obtain ⟨b, o, rfl, _, hc⟩ := h0.fibs.at_ hlt
          obtain ⟨f, hfk⟩ := get_of (k := k) hlf hlt
          have f0 := bl_cell hbq (hc k f hfk 0 _ rfl)
          have f1 := bl_cell hbq (hc k f hfk 1 _ rfl)
          have f2 := bl_cell hbq (hc k f hfk 2 _ rfl)
          have f3 := bl_cell hbq (hc k f hfk 3 _ rfl)
          simp only [elFib, Nat.add_zero] at f0 f1 f2 f3
          have hp : Hid ((riskF fs k == ((t : Int) + 1)) = (f.risk == ((t : Int) + 1))) := by unfold Hid; rw [riskF_of hfk]
          have hbF := bl_alloc hq (.cells #[.int .i64 f.a, .int .i64 f.b, .int .i64 f.len, .int .i64 f.risk] 64)
          have hbF1 := bl_alloc (Below.refl wr.heap.size wr) (.cells #[.int .i64 f.a, .int .i64 f.b, .int .i64 f.len, .int .i64 f.risk] 64)
          have hoF : Hid (Owns elInt _ _ _ _ _) := hown.out.below hbF1
          have hll := idsTo_len (fun j => riskF fs j == ((t : Int) + 1)) k
          clear hc hfk hown hbF1
          cases g3 : (f.risk == ((t : Int) + 1))
          · have HN : Hid (idsTo (fun j => riskF fs j == ((t : Int) + 1)) (k + 1) = idsTo (fun j => riskF fs j == ((t : Int) + 1)) k) := idsTo_no (hp.out.trans g3)
            have HO := hoF
            rw [← HN.out] at HO
            clear hp hoF
            go_wp2
            exact ⟨⟨k + 1, by omega, by go_num, HO, hbF⟩, by simp [intOf]; omega⟩
          · have HN : Hid (idsTo (fun j => riskF fs j == ((t : Int) + 1)) (k + 1) = idsTo (fun j => riskF fs j == ((t : Int) + 1)) k ++ [(k : Int)]) := idsTo_yes (hp.out.trans g3)
            have hbG := bl_alloc hbF (.cells #[.int .i64 k] 3)
            have hoG : Hid (Owns elInt _ _ _ _ _) := hoF.out.below (bl_alloc (Below.refl _ _) (.cells #[.int .i64 k] 3))
            clear hp hoF
            go_wp2_with (first
              | (at_builtin; refine wpList_append_own _ rfl _ _ 26 rfl wo.heap.size 3 i0 (.int .i64 0) 1 8 Try.underlying26 hi hz0 hz1 hz2 rfl (by decide) _ (idsTo (fun j => riskF fs j == ((t : Int) + 1)) k).length ((idsTo (fun j => riskF fs j == ((t : Int) + 1)) k).flatMap elInt.cells) rfl hoG.out ⟨_, 0, none⟩ 1 1 [.int .i64 k] rfl rfl (one_new _ _ _ (by simp)) (fun u hu => by simp at hu; subst hu; rfl) (by unfold maxLen; omega) (by omega) (by simp; omega) ?_)
              | go_in)
            intro v' w1 hown' hgrow _
            have HO : Hid (Owns elInt w1 wo.heap.size 3 v' (idsTo (fun j => riskF fs j == ((t : Int) + 1)) (k + 1))) := by unfold Hid; rw [HN.out]; exact Owns.appended hown'
            have hbN := bl_grown hbG hgrow (fun g hg => (hoG.out.lies g hg).1)
            clear hown' hgrow hoG hbG
            go_wp2
            go_roundw
            case rel => first | exact ⟨k + 1, by omega, by go_num, HO, hbN⟩ | ((repeat apply Exists.intro); exact ⟨⟨k + 1, by omega, by go_num, HO, hbN⟩, rfl⟩)
            case measure => simp [intOf]; omega
        · have hkm : k = m := by omega
          rw [hkm] at hown
          have HRW : Hid (idsTo (fun j => riskF fs j == ((t : Int) + 1)) m = rkRow fs t) := by unfold Hid rkRow; rw [hlf]
          rw [HRW.out] at hown
          obtain ⟨Ao, co, rfl, _, _, _⟩ := hown.out.form
          obtain ⟨L, hL⟩ : ∃ L, L = (rkRow fs t).length := ⟨_, rfl⟩
          have HLL := hid hL
          rw [← hL] at hown ⊢
          have hsq := hid (hss.out.below hq)
          clear hlt
          by_cases hL0 : L = 0
          · have e0 : decide (0 < L) = false := by simp [hL0]
            have HT : Hid (rkTo fs (t + 1) = rkTo fs t) := rkTo_no (List.eq_nil_of_length_eq_zero (by rw [← hL, hL0]))
            have HS := hsq
            rw [← HT.out] at HS
            clear hL hL0 hsq hown hss
            go_wp2
            exact ⟨⟨t + 1, ss, by omega, by go_num, HS, hbq⟩, by simp [intOf]; omega⟩
          · have e0 : decide (0 < L) = true := by simp; omega
            have HT : Hid (rkTo fs (t + 1) = rkTo fs t ++ [rkRow fs t]) := rkTo_yes (fun e => hL0 (by rw [hL, e]; rfl))
            have hbG := bl_alloc hbq (.cells #[.slice Ao L co] 26)
            have hq2 := bl_alloc hq (.cells #[.slice Ao L co] 26)
            have hsG := hid (hsq.out.below (bl_alloc (Below.refl _ _) (.cells #[.slice Ao L co] 26)))
            have hr2 : Hid (Owns elInt _ _ _ (slV ⟨Ao, L, co⟩) _) := hown.out.below (bl_alloc (Below.refl _ _) (.cells #[.slice Ao L co] 26))
            have hsl : ss.length ≤ 9 := by have := hsG.out.2.1; have := rkTo_len fs t; omega
            clear hL hL0 hsq hown
            go_wp2_with (first
              | (at_builtin; refine wpList_append_own _ rfl _ _ 92 rfl (w.heap.size + 1) 26 j0 (.slice none 0 0) 1 24 Try.underlying92 hj hy0 hy1 hy2 rfl (by decide) _ ss.length (ss.flatMap elSl.cells) rfl hsG.out.1 ⟨_, 0, none⟩ 1 1 [.slice Ao L co] rfl rfl (one_new _ _ _ (by simp)) (fun u hu => by simp at hu; subst hu; rfl) (by unfold maxLen; omega) (by omega) (by simp; omega) ?_)
              | go_in)
            intro v' w1 hown' hgrow _
            have HP : Hid (OwnsSS w1 (w.heap.size + 1) v' (ss ++ [⟨Ao, L, co⟩]) (rkTo fs (t + 1))) := by
              unfold Hid; rw [HT.out]; exact hss.out.push (s0 := ⟨Ao, L, co⟩) hq2 (by omega) hr2.out (Owns.appended (E := elSl) hown') hgrow
            have hbN := bl_grown hbG hgrow (fun g hg => by have := (hsG.out.1.lies g hg).1; omega)
            clear hown' hgrow hsG hbG hr2 hq2 hss
            go_wp2
            exact ⟨⟨t + 1, _, by omega, by go_num, HP, hbN⟩, by simp [intOf]; omega⟩
    · have ht9 : t = 9 := by omega
      subst ht9
      have hs0 := hss
      rw [show rkTo fs 9 = rkTo fs 9 ++ zrTo fs 0 from by rw [zrTo_zero, List.append_nil]] at hs0
      clear hss
      go_wp2_with fail
      clear q1
      have hbs := hb
      obtain ⟨wo, hwo⟩ : ∃ wo, wo = wr := ⟨_, rfl⟩
      subst hwo
      go_loopw [3, 43] (fun v i wr => ∃ (k : Nat) (ss : List Sl), k ≤ m ∧ i = .int .i64 k ∧ Hid (OwnsSS wr (w.heap.size + 1) v ss (rkTo fs 9 ++ zrTo fs k)) ∧ Below w0.heap.size w0 wr) (fun _ i _ => m - (intOf i).toNat)
      case atStart => exact ⟨0, ss, Nat.zero_le _, rfl, hs0, hbs⟩
      case round =>
        clear hs0 hbs hb hwz
        obtain ⟨k, ss, hk, rfl, hss, hb⟩ := hrel
        have hwz := hb.size
        by_cases hlt : k < m
        · obtain ⟨b, o, rfl, _, hc⟩ := h0.fibs.at_ hlt
          obtain ⟨f, hfk⟩ := get_of (k := k) hlf hlt
          have f0 := bl_cell hb (hc k f hfk 0 _ rfl)
          have f1 := bl_cell hb (hc k f hfk 1 _ rfl)
          have f2 := bl_cell hb (hc k f hfk 2 _ rfl)
          have f3 := bl_cell hb (hc k f hfk 3 _ rfl)
          simp only [elFib, Nat.add_zero] at f0 f1 f2 f3
          have hp : Hid ((riskF fs k == 0) = (f.risk == 0)) := by unfold Hid; rw [riskF_of hfk]
          have hbF := bl_alloc hb (.cells #[.int .i64 f.a, .int .i64 f.b, .int .i64 f.len, .int .i64 f.risk] 64)
          have hbF1 := bl_alloc (Below.refl wr.heap.size wr) (.cells #[.int .i64 f.a, .int .i64 f.b, .int .i64 f.len, .int .i64 f.risk] 64)
          clear hc hfk
          cases g3 : (f.risk == 0)
          · have HN : Hid (zrTo fs (k + 1) = zrTo fs k) := zrTo_no (hp.out.trans g3)
            have HO := hid (hss.out.below hbF1)
            rw [← HN.out] at HO
            clear hp hss
            go_wp2
            exact ⟨⟨k + 1, ss, by omega, by go_num, HO, hbF⟩, by simp [intOf]; omega⟩
          · have HN : Hid (rkTo fs 9 ++ zrTo fs (k + 1) = (rkTo fs 9 ++ zrTo fs k) ++ [[(k : Int)]]) := by unfold Hid; rw [zrTo_yes (hp.out.trans g3), List.append_assoc]
            have hq1 := bl_alloc hbF1 (.cells #[.int .i64 k] 3)
            have hq2 := bl_alloc hq1 (.cells #[.slice (some ⟨wr.heap.size + 1, 0, none⟩) 1 1] 26)
            have hbG := bl_then hb hq2
            have hsG := hid (hss.out.below hq2)
            have hr2 : Hid (Owns elInt (((wr.alloc (.cells #[.int .i64 f.a, .int .i64 f.b, .int .i64 f.len, .int .i64 f.risk] 64)).alloc (.cells #[.int .i64 k] 3)).alloc (.cells #[.slice (some ⟨wr.heap.size + 1, 0, none⟩) 1 1] 26)) wr.heap.size 3 (slV ⟨some ⟨wr.heap.size + 1, 0, none⟩, 1, 1⟩) [(k : Int)]) :=
              (show Owns elInt ((wr.alloc (.cells #[.int .i64 f.a, .int .i64 f.b, .int .i64 f.len, .int .i64 f.risk] 64)).alloc (.cells #[.int .i64 k] 3)) wr.heap.size 3 (.slice (some ⟨wr.heap.size + 1, 0, none⟩) 1 1) [(k : Int)] from Owns.of_blk (n := 1) (cap := 1) (cur := #[.int .i64 k]) (by have := Blk.new (wr.alloc (.cells #[.int .i64 f.a, .int .i64 f.b, .int .i64 f.len, .int .i64 f.risk] 64)) 3 #[.int .i64 k]; simpa using this) (Nat.le_succ _) rfl (Nat.le_refl _) rfl (by decide) (filled_int1 _)).below (bl_alloc (Below.refl _ _) _)
            have hsl : ss.length ≤ 9 + k := by have := hsG.out.2.1; have := rkTo_len fs 9; have := zrTo_len fs k; simp at *; omega
            clear hp hq1 hbF hbF1
            go_wp2_with (first
              | (at_builtin; refine wpList_append_own _ rfl _ _ 92 rfl (w.heap.size + 1) 26 j0 (.slice none 0 0) 1 24 Try.underlying92 hj hy0 hy1 hy2 rfl (by decide) _ ss.length (ss.flatMap elSl.cells) rfl hsG.out.1 ⟨_, 0, none⟩ 1 1 [.slice (some ⟨wr.heap.size + 1, 0, none⟩) 1 1] rfl rfl (one_new _ _ _ (by simp)) (fun u hu => by simp at hu; subst hu; rfl) (by unfold maxLen; omega) (by omega) (by simp; omega) ?_)
              | go_in)
            intro v' w1 hown' hgrow _
            have HP : Hid (OwnsSS w1 (w.heap.size + 1) v' (ss ++ [⟨some ⟨wr.heap.size + 1, 0, none⟩, 1, 1⟩]) (rkTo fs 9 ++ zrTo fs (k + 1))) := by
              unfold Hid; rw [HN.out]; exact hss.out.push (s0 := ⟨some ⟨wr.heap.size + 1, 0, none⟩, 1, 1⟩) hq2 (by omega) hr2.out (Owns.appended (E := elSl) hown') hgrow
            have hbN := bl_grown hbG hgrow (fun g hg => by have := (hsG.out.1.lies g hg).1; omega)
            clear hown' hgrow hsG hbG hr2 hq2 hss
            go_wp2
            refine ⟨?_, by simp [intOf]; omega⟩
            first | exact ⟨k + 1, _, by omega, by go_num, HP, hbN⟩ | ((repeat apply Exists.intro); exact ⟨⟨k + 1, _, by omega, by go_num, HP, hbN⟩, rfl⟩)
        · have hkm : k = m := by omega
          rw [hkm] at hss
          have HG : Hid (groupsL fs = rkTo fs 9 ++ zrTo fs m) := by unfold Hid groupsL; rw [hlf]
          obtain ⟨Ao, co, rfl, _, _, _⟩ := hss.out.1.form
          clear hlt
          go_wp2
          go_ret
          exact ⟨⟨Ao, _, co⟩, ss, rfl, by rw [HG.out]; exact hss.out.base_ (by omega), hb0.trans (hb.mono (by omega))⟩
end Go.Proofs.Ytjklphlgmlomjaa
/- spec.l2Groups: the reference's risk groups, walked. Conditions: none. -/
namespace Go.Proofs.Ytjklphlgmlomjaa
open Go.RowKit
variable {n c m d : Nat} {A A' : Option Addr} {xs : List ByteArray} {fs : List Fib}
theorem groupL_row {t k : Nat} (h : (riskF fs k == ((t : Int) + 1)) = true) : groupL fs k = rkRow fs t := by
  have e : riskF fs k = (t : Int) + 1 := by simpa using h
  unfold groupL rkRow
  rw [e, if_neg (by simp; omega)]
theorem idsTo_ne {p : Nat → Bool} {k m : Nat} (hk : k < m) (h : p k = true) : idsTo p m ≠ [] := by
  intro e
  unfold idsTo at e
  have : (List.range m).filter p = [] := List.map_eq_nil_iff.1 e
  have h2 := List.filter_eq_nil_iff.1 this k (by simpa using hk)
  exact h2 h
set_option maxHeartbeats 2000000 in
set_option maxRecDepth 100000 in
theorem l2Groups_any (w : World) (h : NetIs w A n c A' m d xs fs) :
    Calls Try.prog 85 #[.agg #[.slice A n c, .slice A' m d]] w fun e w' => ∃ s ss, e = .returned (slV s) ∧ OwnsSS w' w.heap.size (slV s) ss (groupsL fs) ∧ Below w.heap.size w w' := by
  obtain ⟨j0, hj, hy0, hy1, hy2⟩ := info_parts sl_info
  have hb0 := bl_alloc (Below.refl w.heap.size w) (.cells #[.slice A n c, .slice A' m d] 35)
  have hx0 : Blk (w.alloc (.cells #[.slice A n c, .slice A' m d] 35)) w.heap.size 35 #[.slice A n c, .slice A' m d] := Blk.new _ _ _
  have h0 := h.grow hb0
  have hlf := h.flen
  have hm := h.mle
  have hsz0 : (w.alloc (.cells #[.slice A n c, .slice A' m d] 35)).heap.size = w.heap.size + 1 := by simp
  have hbe : Below (w.alloc (.cells #[.slice A n c, .slice A' m d] 35)).heap.size (w.alloc (.cells #[.slice A n c, .slice A' m d] 35)) ((w.alloc (.cells #[.slice A n c, .slice A' m d] 35)).alloc (.cells #[] 26)) := bl_alloc (Below.refl _ _) _
  have hoe : Hid (OwnsSS ((w.alloc (.cells #[.slice A n c, .slice A' m d] 35)).alloc (.cells #[] 26)) (w.heap.size + 1) (.slice (some ⟨w.heap.size + 1, 0, none⟩) 0 0) [] (rkTo fs 0)) :=
    ⟨Owns.of_blk (E := elSl) (n := 0) (cap := 0) (cur := #[]) (by have := Blk.new (w.alloc (.cells #[.slice A n c, .slice A' m d] 35)) 26 #[]; simpa using this) (Nat.le_refl _) rfl (Nat.le_refl _) rfl (by decide) (Filled.zero _ _ _), rfl, fun i s r h1 => by simp at h1, fun i j s t g _ h1 => by simp at h1⟩
  go_enter Try.func85, Try.ntmps85
  go_wp2_with fail
  generalize hw0 : w.alloc (.cells #[.slice A n c, .slice A' m d] 35) = w0 at *
  go_loopw [3, 4] (fun v i wr => ∃ (t : Nat) (ss : List Sl), t ≤ 9 ∧ i = .int .i64 ((t : Int) + 1) ∧ Hid (OwnsSS wr (w.heap.size + 1) v ss (rkTo fs t)) ∧ Below w0.heap.size w0 wr) (fun _ i _ => 10 - (intOf i).toNat)
  case atStart => exact ⟨0, [], Nat.zero_le _, rfl, hoe, hbe⟩
  case round =>
    clear hbe hoe
    obtain ⟨t, ss, ht, rfl, hss, hb⟩ := hrel
    have hwz := hb.size
    by_cases htl : t < 9
    · obtain ⟨wo, hwo⟩ : ∃ wo, wo = wr := ⟨_, rfl⟩
      subst hwo
      have e9 : decide ((t : Int) + 1 ≤ 9) = true := decide_eq_true (by omega)
      have hsl : ss.length ≤ 9 := by have := hss.out.2.1; have := rkTo_len fs t; omega
      go_wp2_with fail
      go_loopw [3, 5] (fun v i wr => ∃ k : Nat, k ≤ m ∧ i = .int .i64 k ∧ v = u3 ∧ Hid (idsTo (fun j => riskF fs j == ((t : Int) + 1)) k = []) ∧ wr = wo) (fun _ i _ => m - (intOf i).toNat)
      case atStart => exact ⟨0, Nat.zero_le _, rfl, rfl, idsTo_zero _, rfl⟩
      case round =>
        obtain ⟨k, hk, rfl, rfl, hno, rfl⟩ := hrel
        have q1 := (hx0.below hb hx0.lt).cell 1
        have q0 := (hx0.below hb hx0.lt).cell 0
        simp at q0 q1
        by_cases hlt : k < m
        · obtain ⟨b, o, rfl, _, hc⟩ := h0.fibs.at_ hlt
          obtain ⟨f, hfk⟩ := get_of (k := k) hlf hlt
          have f3 := bl_cell hb (hc k f hfk 3 _ rfl)
          simp only [elFib] at f3
          have hp : Hid ((riskF fs k == ((t : Int) + 1)) = (f.risk == ((t : Int) + 1))) := by unfold Hid; rw [riskF_of hfk]
          clear hc hfk
          cases g3 : (f.risk == ((t : Int) + 1))
          · have HN : Hid (idsTo (fun j => riskF fs j == ((t : Int) + 1)) (k + 1) = []) := by unfold Hid; rw [idsTo_no (hp.out.trans g3)]; exact hno.out
            clear hp hno
            go_wp2
            refine ⟨?_, by simp [intOf]; omega⟩
            first | exact ⟨k + 1, by omega, by go_num, rfl, HN, trivial⟩ | exact ⟨k + 1, by omega, by go_num, HN, rfl⟩ | exact ⟨k + 1, by omega, by go_num, rfl, HN, rfl⟩ | ((repeat apply Exists.intro); exact ⟨⟨k + 1, by omega, by go_num, rfl, HN, rfl⟩, rfl⟩)
          · have HR : Hid (groupL fs k = rkRow fs t) := groupL_row (hp.out.trans g3)
            have HT : Hid (rkTo fs (t + 1) = rkTo fs t ++ [rkRow fs t]) := rkTo_yes (by unfold rkRow; rw [hlf]; exact idsTo_ne hlt (hp.out.trans g3))
            have HC := hid (l2Group_any k wr (h0.grow hb) hlt)
            clear hp hno
            go_wp2_with fail
            refine HC.out.mono ?_
            rintro e w2 ⟨s2, rfl, ho2, hb2⟩
            have ho2 := hid ho2
            obtain ⟨Ag, Lg, cg⟩ := s2
            have hbG := bl_alloc (bl_then hb hb2) (.cells #[.slice Ag Lg cg] 26)
            have hq2 := bl_alloc hb2 (.cells #[.slice Ag Lg cg] 26)
            have hsG := hid (hss.out.below hq2)
            have hr2 : Hid (Owns elInt _ _ _ (slV ⟨Ag, Lg, cg⟩) _) := ho2.out.below (bl_alloc (Below.refl _ _) (.cells #[.slice Ag Lg cg] 26))
            have z2 := hb2.size
            unfold slV
            clear HC ho2 hb2 q0 q1 f3
            go_wp2_with (first
              | (at_builtin; refine wpList_append_own _ rfl _ _ 92 rfl (w.heap.size + 1) 26 j0 (.slice none 0 0) 1 24 Try.underlying92 hj hy0 hy1 hy2 rfl (by decide) _ ss.length (ss.flatMap elSl.cells) rfl hsG.out.1 ⟨_, 0, none⟩ 1 1 [.slice Ag Lg cg] rfl rfl (one_new _ _ _ (by simp)) (fun u hu => by simp at hu; subst hu; rfl) (by unfold maxLen; omega) (by omega) (by simp; omega) ?_)
              | go_in)
            intro v' w1 hown' hgrow _
            have HP : Hid (OwnsSS w1 (w.heap.size + 1) v' (ss ++ [⟨Ag, Lg, cg⟩]) (rkTo fs (t + 1))) := by
              unfold Hid; rw [HT.out]; exact hss.out.push (s0 := ⟨Ag, Lg, cg⟩) hq2 (by omega) (by have := hr2.out; rw [HR.out] at this; exact this) (Owns.appended (E := elSl) hown') hgrow
            have hbN := bl_grown hbG hgrow (fun g hg => by have := (hsG.out.1.lies g hg).1; omega)
            clear hown' hgrow hsG hbG hr2 hq2 hss
            go_wp2
            refine ⟨?_, by simp [intOf]; omega⟩
            first | exact ⟨t + 1, _, by omega, by go_num, HP, hbN⟩ | ((repeat apply Exists.intro); exact ⟨⟨t + 1, _, by omega, by go_num, HP, hbN⟩, rfl⟩)
        · have hkm : k = m := by omega
          have HT : Hid (rkTo fs (t + 1) = rkTo fs t) := rkTo_no (by unfold rkRow; rw [hlf, ← hkm]; exact hno.out)
          have HS := hss
          rw [← HT.out] at HS
          clear hno hlt hss
          go_wp2
          refine ⟨?_, by simp [intOf]; omega⟩
          first | exact ⟨t + 1, ss, by omega, by go_num, HS, hb⟩ | ((repeat apply Exists.intro); exact ⟨⟨t + 1, ss, by omega, by go_num, HS, hb⟩, rfl⟩)
    · have ht9 : t = 9 := by omega
      subst ht9
      have hs0 := hss
      rw [show rkTo fs 9 = rkTo fs 9 ++ zrTo fs 0 from by rw [zrTo_zero, List.append_nil]] at hs0
      clear hss
      go_wp2_with fail
      have hbs := hb
      obtain ⟨wo, hwo⟩ : ∃ wo, wo = wr := ⟨_, rfl⟩
      subst hwo
      go_loopw [3, 6] (fun v i wr => ∃ (k : Nat) (ss : List Sl), k ≤ m ∧ i = .int .i64 k ∧ Hid (OwnsSS wr (w.heap.size + 1) v ss (rkTo fs 9 ++ zrTo fs k)) ∧ Below w0.heap.size w0 wr) (fun _ i _ => m - (intOf i).toNat)
      case atStart => exact ⟨0, ss, Nat.zero_le _, rfl, hs0, hbs⟩
      case round =>
        clear hs0 hbs hb hwz
        obtain ⟨k, ss, hk, rfl, hss, hb⟩ := hrel
        have hwz := hb.size
        have q1 := (hx0.below hb hx0.lt).cell 1
        simp at q1
        by_cases hlt : k < m
        · obtain ⟨b, o, rfl, _, hc⟩ := h0.fibs.at_ hlt
          obtain ⟨f, hfk⟩ := get_of (k := k) hlf hlt
          have f3 := bl_cell hb (hc k f hfk 3 _ rfl)
          simp only [elFib] at f3
          have hp : Hid ((riskF fs k == 0) = (f.risk == 0)) := by unfold Hid; rw [riskF_of hfk]
          clear hc hfk
          cases g3 : (f.risk == 0)
          · have HN : Hid (zrTo fs (k + 1) = zrTo fs k) := zrTo_no (hp.out.trans g3)
            have HO := hss
            rw [← HN.out] at HO
            clear hp hss
            go_wp2
            refine ⟨?_, by simp [intOf]; omega⟩
            first | exact ⟨k + 1, ss, by omega, by go_num, HO, hb⟩ | ((repeat apply Exists.intro); exact ⟨⟨k + 1, ss, by omega, by go_num, HO, hb⟩, rfl⟩)
          · have HN : Hid (rkTo fs 9 ++ zrTo fs (k + 1) = (rkTo fs 9 ++ zrTo fs k) ++ [[(k : Int)]]) := by unfold Hid; rw [zrTo_yes (hp.out.trans g3), List.append_assoc]
            have hq1 := bl_alloc (Below.refl wr.heap.size wr) (.cells #[.int .i64 k] 3)
            have hq2 := bl_alloc hq1 (.cells #[.slice (some ⟨wr.heap.size, 0, none⟩) 1 1] 26)
            have hbG := bl_then hb hq2
            have hsG := hid (hss.out.below hq2)
            have hr2 : Hid (Owns elInt ((wr.alloc (.cells #[.int .i64 k] 3)).alloc (.cells #[.slice (some ⟨wr.heap.size, 0, none⟩) 1 1] 26)) wr.heap.size 3 (slV ⟨some ⟨wr.heap.size, 0, none⟩, 1, 1⟩) [(k : Int)]) :=
              (show Owns elInt (wr.alloc (.cells #[.int .i64 k] 3)) wr.heap.size 3 (.slice (some ⟨wr.heap.size, 0, none⟩) 1 1) [(k : Int)] from Owns.of_blk (n := 1) (cap := 1) (cur := #[.int .i64 k]) (Blk.new wr 3 #[.int .i64 k]) (Nat.le_refl _) rfl (Nat.le_refl _) rfl (by decide) (filled_int1 _)).below (bl_alloc (Below.refl _ _) _)
            have hsl : ss.length ≤ 9 + k := by have := hsG.out.2.1; have := rkTo_len fs 9; have := zrTo_len fs k; simp at *; omega
            clear hp hq1
            go_wp2_with (first
              | (at_builtin; refine wpList_append_own _ rfl _ _ 92 rfl (w.heap.size + 1) 26 j0 (.slice none 0 0) 1 24 Try.underlying92 hj hy0 hy1 hy2 rfl (by decide) _ ss.length (ss.flatMap elSl.cells) rfl hsG.out.1 ⟨_, 0, none⟩ 1 1 [.slice (some ⟨wr.heap.size, 0, none⟩) 1 1] rfl rfl (one_new _ _ _ (by simp)) (fun u hu => by simp at hu; subst hu; rfl) (by unfold maxLen; omega) (by omega) (by simp; omega) ?_)
              | go_in)
            intro v' w1 hown' hgrow _
            have HP : Hid (OwnsSS w1 (w.heap.size + 1) v' (ss ++ [⟨some ⟨wr.heap.size, 0, none⟩, 1, 1⟩]) (rkTo fs 9 ++ zrTo fs (k + 1))) := by
              unfold Hid; rw [HN.out]; exact hss.out.push (s0 := ⟨some ⟨wr.heap.size, 0, none⟩, 1, 1⟩) hq2 (by omega) hr2.out (Owns.appended (E := elSl) hown') hgrow
            have hbN := bl_grown hbG hgrow (fun g hg => by have := (hsG.out.1.lies g hg).1; omega)
            clear hown' hgrow hsG hbG hr2 hq2 hss
            go_wp2
            refine ⟨?_, by simp [intOf]; omega⟩
            first | exact ⟨k + 1, _, by omega, by go_num, HP, hbN⟩ | ((repeat apply Exists.intro); exact ⟨⟨k + 1, _, by omega, by go_num, HP, hbN⟩, rfl⟩)
        · have hkm : k = m := by omega
          rw [hkm] at hss
          have HG : Hid (groupsL fs = rkTo fs 9 ++ zrTo fs m) := by unfold Hid groupsL; rw [hlf]
          obtain ⟨Ao, co, rfl, _, _, _⟩ := hss.out.1.form
          clear hlt
          go_wp2
          go_ret
          exact ⟨⟨Ao, _, co⟩, ss, rfl, by rw [HG.out]; exact hss.out.base_ (by omega), hb0.trans (hb.mono (by omega))⟩
end Go.Proofs.Ytjklphlgmlomjaa
/- RiskGroups of both sides and the reference's FailingWith, walked. Conditions: none. -/
namespace Go.Proofs.Ytjklphlgmlomjaa
open Go.RowKit
variable {n c m d : Nat} {A A' : Option Addr} {xs : List ByteArray} {fs : List Fib}
def rgL (xs : List ByteArray) (fs : List Fib) : List (List Int) := if goodB xs fs then groupsL fs else []
def fwB (xs : List ByteArray) (fs : List Fib) (i : Int) : Bool := goodB xs fs && inB 0 ((fs.length : Int) - 1) i
def fwL (xs : List ByteArray) (fs : List Fib) (i : Int) : List Int := if fwB xs fs i then groupL fs i.toNat else []
end Go.Proofs.Ytjklphlgmlomjaa
/- eqIntSS, walked. Conditions: at most 1048576 rows and numbers in a row. -/
namespace Go.Proofs.Ytjklphlgmlomjaa
open Go.RowKit
/-- Rows of numbers as they read. -/
def SeesSS (w : World) (A : Option Addr) (n : Nat) (ss : List Sl) (rows : List (List Int)) : Prop :=
  Sees elSl w w.heap.size A n ss ∧ ss.length = rows.length ∧ ∀ (i : Nat) s r, ss[i]? = some s → rows[i]? = some r → s.n = r.length ∧ Sees elInt w w.heap.size s.A s.n r
theorem OwnsSS.sees {w : World} {base n c : Nat} {A : Option Addr} {ss : List Sl} {rows : List (List Int)} (h : OwnsSS w base (.slice A n c) ss rows) : SeesSS w A ss.length ss rows := by
  refine ⟨h.1.sees, h.2.1, fun i s r h1 h2 => ?_⟩
  have ho := h.2.2.1 i s r h1 h2
  obtain ⟨A', c', hv, _, _, hs⟩ := ho.form
  unfold slV at hv
  injection hv with e1 e2 e3
  exact ⟨e2, by rw [e1, e2]; exact hs⟩
theorem SeesSS.grow {w w' : World} {A : Option Addr} {n : Nat} {ss : List Sl} {rows : List (List Int)} (h : SeesSS w A n ss rows) (hb : Below w.heap.size w w') : SeesSS w' A n ss rows :=
  ⟨(h.1.grow hb).more hb.size, h.2.1, fun i s r h1 h2 => ⟨(h.2.2 i s r h1 h2).1, ((h.2.2 i s r h1 h2).2.grow hb).more hb.size⟩⟩
end Go.Proofs.Ytjklphlgmlomjaa
/- markIntSS, walked. Conditions: at most 1048576 rows and numbers in a row; the last mark below 2^40. -/
namespace Go.Proofs.Ytjklphlgmlomjaa
open Go.RowKit
/-- The mark at which row j begins. -/
def offS (k : Int) (rows : List (List Int)) (j : Nat) : Int := k + ((((rows.take j).map List.length).sum : Nat) : Int)
theorem offS_zero (k : Int) (rows : List (List Int)) : offS k rows 0 = k := by simp [offS]
theorem offS_succ {k : Int} {rows : List (List Int)} {j : Nat} {r : List Int} (h : rows[j]? = some r) : offS k rows (j + 1) = offS k rows j + (r.length : Int) := by
  unfold offS
  rw [List.take_add_one, h]
  simp
  omega
theorem offS_ge (k : Int) (rows : List (List Int)) (j : Nat) : k ≤ offS k rows j := by unfold offS; omega
theorem offS_le {k : Int} {rows : List (List Int)} : ∀ {d j : Nat}, j + d = rows.length → offS k rows j ≤ offS k rows rows.length := by
  intro d
  induction d with
  | zero => intro j h; rw [show j = rows.length by omega]; exact Int.le_refl _
  | succ d ih =>
    intro j h
    have h1 := ih (j := j + 1) (by omega)
    obtain ⟨r, hr⟩ : ∃ r, rows[j]? = some r := ⟨rows[j]'(by omega), List.getElem?_eq_getElem _⟩
    rw [offS_succ hr] at h1
    omega
/-- Row i behind j rows' marking. -/
def rowM (k : Int) (rows : List (List Int)) (j i : Nat) (r : List Int) : List Int := if i < j then marks (offS k rows i) r.length else r
/-- All rows, marked. -/
def marksSS (k : Int) (rows : List (List Int)) : List (List Int) := (List.range rows.length).map fun i => marks (offS k rows i) (rows.getD i []).length
theorem marksSS_get {k : Int} {rows : List (List Int)} {i : Nat} {r q : List Int} (h : rows[i]? = some r) (hq : (marksSS k rows)[i]? = some q) : q = marks (offS k rows i) r.length := by
  have hi := (List.getElem?_eq_some_iff.1 h).1
  unfold marksSS at hq
  rw [List.getElem?_map, List.getElem?_range hi] at hq
  simp [h] at hq
  exact hq.symm
end Go.Proofs.Ytjklphlgmlomjaa
