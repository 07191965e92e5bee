/- Lemmas and walks that the claim rests on, laid together. Conditions: none. -/
import Derived.Test.YtjklphlgmlomjaaZ59e0df21fdc8
import Derived.Deep.LoopGhost
import Derived.Deep.RegionHeld3
import Derived.Test.YtjklphlgmlomjaaRows
import Derived.Test.YtjklphlgmlomjaaZ7a66a4e1c076
import Derived.Shelf.Sort.Plain
import Derived.Shelf.Bits.Mul64
import Derived.Shelf.Slices.Turned
import Derived.Shelf.Slices.Reverse
import Derived.Ground.Names2Prog
import Derived.Shelf.Slices.CompactI
import Derived.Shelf.Slices.In.SortNone
import Derived.Test.YtjklphlgmlomjaaProg
import Derived.Laws.CopyOwn
import Derived.Laws.OwnMore
/- Sets of fibers as numbers: the reference's l6Mask, walked. Conditions: the numbers are below 20. -/
namespace Go.Proofs.Ytjklphlgmlomjaa
open Go.RowKit
/-- The set as a number. -/
def maskTo (l : List Int) : Nat → Nat
  | 0 => 0
  | k + 1 => maskTo l k ||| 2 ^ (l.getD k 0).toNat
def maskN (l : List Int) : Nat := maskTo l l.length
theorem maskTo_bit {l : List Int} (h : ∀ x ∈ l, 0 ≤ x) (i : Nat) : ∀ k, k ≤ l.length → (maskTo l k).testBit i = decide ((i : Int) ∈ l.take k) := by
  intro k
  induction k with
  | zero => intro _; simp [maskTo]
  | succ k ih =>
    intro hk
    have hkl : k < l.length := by omega
    have e : l.take (k + 1) = l.take k ++ [l[k]] := by rw [List.take_add_one, List.getElem?_eq_getElem hkl]; rfl
    have hx := h _ (List.getElem_mem hkl)
    show (maskTo l k ||| 2 ^ (l.getD k 0).toNat).testBit i = _
    rw [Nat.testBit_or, ih (by omega), Nat.testBit_two_pow, e, getD_of (List.getElem?_eq_getElem hkl)]
    rw [Bool.eq_iff_iff, Bool.or_eq_true, decide_eq_true_eq, decide_eq_true_eq, decide_eq_true_eq, List.mem_append, List.mem_singleton]
    constructor
    · intro h1
      rcases h1 with h1 | h1
      · exact Or.inl h1
      · exact Or.inr (by omega)
    · intro h1
      rcases h1 with h1 | h1
      · exact Or.inl h1
      · exact Or.inr (by omega)
theorem maskN_bit {l : List Int} (h : ∀ x ∈ l, 0 ≤ x) (i : Nat) : (maskN l).testBit i = hasB l (i : Int) := by
  unfold maskN
  rw [maskTo_bit h i _ (Nat.le_refl _), List.take_length, Bool.eq_iff_iff, hasB_iff]
  simp
theorem maskTo_lt {l : List Int} (h : ∀ x ∈ l, 0 ≤ x ∧ x < 20) : ∀ k, k ≤ l.length → maskTo l k < 2 ^ 20 := by
  intro k
  induction k with
  | zero => intro _; simp [maskTo]
  | succ k ih =>
    intro hk
    have hkl : k < l.length := by omega
    have hx := h _ (List.getElem_mem hkl)
    refine Nat.or_lt_two_pow (ih (by omega)) ?_
    rw [getD_of (List.getElem?_eq_getElem hkl)]
    exact Nat.pow_lt_pow_right (by decide) (by omega)
theorem ofInt_small {a : Nat} (h : a < 2 ^ 62) : (BitVec.ofInt 64 (a : Int)).toNat = a := by
  rw [BitVec.ofInt_natCast, BitVec.toNat_ofNat]; exact Nat.mod_eq_of_lt (by omega)
theorem wrap_small {a : Nat} (h : a < 2 ^ 62) : IntKind.i64.wrap (a : Int) = (a : Int) := IntWalk.i64_in _ (by omega)
/-- One bit more. -/
theorem bits_or_n {M N : Nat} (hM : M < 2 ^ 20) (hN : N < 2 ^ 20) : Go.bits .or .i64 (M : Int) (N : Int) = ((M ||| N : Nat) : Int) := by
  have h3 : M ||| N < 2 ^ 20 := Nat.or_lt_two_pow hM hN
  show IntKind.i64.wrap ((BitVec.ofInt 64 (M : Int) ||| BitVec.ofInt 64 (N : Int)).toNat : Int) = _
  rw [BitVec.toNat_or, ofInt_small (by omega), ofInt_small (by omega)]
  exact wrap_small (by omega)
/-- Is bit i set? -/
theorem bits_and_one {M : Nat} (hM : M < 2 ^ 20) (i : Nat) : Go.bits .and .i64 ((M / 2 ^ i : Nat) : Int) 1 = if M.testBit i then 1 else 0 := by
  have h2 : M / 2 ^ i ≤ M := Nat.div_le_self _ _
  have h3 : (M / 2 ^ i) &&& 1 = (M.testBit i).toNat := by
    rw [Nat.testBit_eq_decide_div_mod_eq, Nat.and_one_is_mod]
    have : M / 2 ^ i % 2 = 0 ∨ M / 2 ^ i % 2 = 1 := by omega
    rcases this with h | h <;> simp [h]
  show IntKind.i64.wrap ((BitVec.ofInt 64 ((M / 2 ^ i : Nat) : Int) &&& BitVec.ofInt 64 ((1 : Nat) : Int)).toNat : Int) = _
  rw [BitVec.toNat_and, ofInt_small (by omega), ofInt_small (by omega), h3]
  cases M.testBit i <;> rfl
set_option maxHeartbeats 1000000 in
set_option maxRecDepth 100000 in
theorem mask_any {B c : Nat} {A : Option Addr} {l : List Int} (w : World) (hA : Sees elInt w B A l.length l) (hl : ∀ x ∈ l, 0 ≤ x ∧ x < 20) (hn : l.length ≤ 1048576) :
    Calls Try.prog 82 #[.slice A l.length c] w fun e w' => e = .returned (.int .i64 ((maskN l : Nat) : Int)) ∧ w = w' := by
  have HL := hid hl
  have HB := hid (maskTo_lt hl)
  clear hl
  go_enter Try.func82, Try.ntmps82
  go_wp2
  go_loop [3, 4] (fun t i => ∃ (k M : Nat), k ≤ l.length ∧ i = .int .i64 k ∧ t = .int .i64 (M : Int) ∧ Hid (M = maskTo l k)) (fun _ i => l.length - (intOf i).toNat)
  case atStart => exact ⟨0, 0, Nat.zero_le _, rfl, rfl, rfl⟩
  case round =>
    obtain ⟨k, M, hk, rfl, rfl, hM⟩ := hrel
    by_cases hlt : k < l.length
    · obtain ⟨b, o, rfl, _, hc⟩ := hA.at_ hlt
      obtain ⟨x, hxk⟩ := get_of (k := k) rfl hlt
      have hx := HL.out x (List.mem_of_getElem? hxk)
      obtain ⟨j, rfl⟩ : ∃ j : Nat, x = (j : Int) := ⟨x.toNat, by omega⟩
      have e0 := hc k _ hxk 0 _ rfl
      simp only [elInt, Nat.mul_one, Nat.add_zero] at e0
      have hMb : M < 2 ^ 20 := by rw [hM.out]; exact HB.out k (by omega)
      have hj : (2 : Nat) ^ j < 2 ^ 20 := Nat.pow_lt_pow_right (by decide) (by omega)
      have HN : Hid (maskTo l (k + 1) = M ||| 2 ^ j) := by
        show maskTo l k ||| 2 ^ (l.getD k 0).toNat = _
        rw [getD_of hxk, ← hM.out]; simp
      have HO := hid (bits_or_n hMb hj)
      clear hc hxk hM
      have hw : wrap64 ((2 : Int) ^ j) = ((2 ^ j : Nat) : Int) := by
        have e : ((2 : Int) ^ j) = ((2 ^ j : Nat) : Int) := by simp
        rw [e]
        have h62 : 2 ^ j < 4611686018427387904 := Nat.lt_trans hj (by decide)
        generalize 2 ^ j = y at *
        exact IntWalk.wrap64_in _ (by omega)
      have HW := hid hw
      clear hw
      go_wp2
      exact ⟨⟨k + 1, M ||| 2 ^ j, by omega, by go_num, by rw [HW.out, HO.out], HN.out.symm⟩, by simp [intOf]; omega⟩
    · have hkl : k = l.length := by omega
      have HE : Hid (maskN l = M) := by rw [hM.out, hkl]; rfl
      clear hkl hM
      go_wp2
      go_ret
      exact ⟨by rw [HE.out]; rfl, rfl⟩
end Go.Proofs.Ytjklphlgmlomjaa
/- spec.l6Labels: the reference's components, walked. Conditions: the fibers' ends are nodes; 2 nodes at least; at most 20 fibers. -/
namespace Go.Proofs.Ytjklphlgmlomjaa
open Go.RowKit
set_option maxRecDepth 100000 in
theorem least_any (a b : Int) (w : World) : Calls Try.prog 120 #[.int .i64 a, .int .i64 b] w fun e w' => e = .returned (.int .i64 (min a b)) ∧ w = w' := by
  by_cases h : a < b
  · have H : Hid (min a b = a) := by unfold Hid; omega
    go_enter Try.func120, Try.ntmps120
    go_wp2
    go_ret
    exact ⟨by rw [H.out]; rfl, rfl⟩
  · have H : Hid (min a b = b) := by unfold Hid; omega
    go_enter Try.func120, Try.ntmps120
    go_wp2
    go_ret
    exact ⟨by rw [H.out]; rfl, rfl⟩
section
variable {n c m d : Nat} {A A' : Option Addr} {xs : List ByteArray} {fs : List Fib}
set_option maxHeartbeats 4000000 in
set_option maxRecDepth 100000 in
theorem labels_any (M : Nat) (w : World) (h : NetIs w A n c A' m d xs fs) (hM : M < 2 ^ 20) (he : endsB n fs) (hn0 : 0 < n) (hm20 : m ≤ 20) :
    Calls Try.prog 77 #[.agg #[.slice A n c, .slice A' m d], .int .i64 (M : Int)] w fun e w' => ∃ v, e = .returned v ∧ Owns elInt w' w.heap.size 3 v (compL (fun i => M.testBit i) fs n) ∧ Below w.heap.size w w' := by
  obtain ⟨i0, hi, hz0, hz1, hz2⟩ := info_parts int_info
  have hlf := hid h.flen
  have hn := h.nle
  have HE := hid he
  have HF := hid h
  have HMB := hid hM
  have hS := ((Led.nil w).blk_ w.heap.size rfl 35 #[.slice A n c, .slice A' m d]).empty elInt 3 (w.heap.size + 1) (by simp) w.heap.size (by omega)
  have HS : Hid (Led w ((w.alloc (.cells #[.slice A n c, .slice A' m d] 35)).alloc (.cells #[] 3)) [tOwns elInt w.heap.size 3 (.slice (some ⟨w.heap.size + 1, 0, none⟩) 0 0) (marks 0 0), tBlk w.heap.size 35 #[.slice A n c, .slice A' m d]]) := hS
  clear hS he h hM
  go_enter Try.func77, Try.ntmps77
  go_wp2_with fail
  go_loopw [5, 6] (fun V i wr => ∃ k : Nat, k ≤ n ∧ i = .int .i64 k ∧ Hid (Led w wr [tOwns elInt w.heap.size 3 (V) (marks 0 k), tBlk w.heap.size 35 #[.slice A n c, .slice A' m d]])) (fun _ i _ => n - (intOf i).toNat)
  case atStart => exact ⟨0, Nat.zero_le _, rfl, HS⟩
  case round =>
    clear HS
    obtain ⟨k, hk, rfl, HS⟩ := hrel
    have p0 := HS.out.cell 1 0 rfl rfl
    by_cases hlt : k < n
    · have hml := hid (marks_len 0 k)
      obtain ⟨A1, c1, rfl, _⟩ := HS.out.form 0 rfl
      have HS2 := hid (HS.out.blk_ wr.heap.size rfl 3 #[.int .i64 k])
      have HM : Hid (marks 0 (k + 1) = marks 0 k ++ [(k : Int)]) := by unfold Hid; rw [marks_succ]; simp
      clear HS
      go_wp2_with (first
        | (at_builtin; refine wpList_append_led rfl _ _ 26 rfl HS2.out 1 rfl Try.underlying26 hi hz0 hz1 (by rw [hz2]; decide) rfl rfl rfl (show Sees elInt _ _ _ 1 [(k : Int)] from sees_new elInt _ _ _ _ rfl) (by rw [hml.out]; omega) HS2.out.bl.size ?_)
        | go_in)
      intro A2 c2 w2 hS3
      have HS3 := hid (hS3.drop 1)
      clear hS3 HS2 p0
      go_wp2
      go_roundw
      case rel => exact ⟨k + 1, by omega, by go_num, by rw [HM.out]; exact HS3⟩
      case measure => simp [intOf]; omega
    · have hkn : n = k := by omega
      subst hkn
      obtain ⟨g, cV, rfl⟩ := HS.out.row_ 0 rfl (marks_len 0 n) hn0
      have HS1 : Hid (Led w wr [tOwns elInt w.heap.size 3 (.slice (some ⟨g, 0, none⟩) n cV) (rndL (fun i => M.testBit i) fs n 0), tBlk w.heap.size 35 #[.slice A n c, .slice A' m d]]) := HS
      clear hlt HS
      go_wp2_with fail
      clear p0
      go_loopg [7] (n + 2) (fun gk b wr => ∃ (r : Nat) (more : Bool), b = .bool more ∧ r + gk = n + 2 ∧ Hid (more = true → r ≤ n) ∧ Hid (more = false → rndL (fun i => M.testBit i) fs n r = compL (fun i => M.testBit i) fs n) ∧ Hid (Led w wr [tOwns elInt w.heap.size 3 (.slice (some ⟨g, 0, none⟩) n cV) (rndL (fun i => M.testBit i) fs n r), tBlk w.heap.size 35 #[.slice A n c, .slice A' m d]]))
      case atStart => exact ⟨0, true, rfl, by omega, (show true = true → 0 ≤ n from fun _ => Nat.zero_le _), (show true = false → _ from fun h => Bool.noConfusion h), HS1⟩
      case round =>
        clear HS1
        obtain ⟨r, more, rfl, hrg, hm1, hm2, HS⟩ := hrel
        cases more
        case false =>
          have HR := hid (hm2.out rfl)
          clear hm1 hm2
          go_wp2
          go_ret
          exact ⟨_, rfl, by rw [← HR.out]; exact HS.out.own 0 rfl, HS.out.bl⟩
        case true =>
          have hrn := hm1.out rfl
          clear hm1 hm2
          obtain ⟨X, hX⟩ : ∃ X, X = rndL (fun i => M.testBit i) fs n r := ⟨_, rfl⟩
          have hXl : Hid (X.length = n) := by rw [hX]; exact rndL_len r
          have HN : Hid (rndL (fun i => M.testBit i) fs n (r + 1) = passL (fun i => M.testBit i) fs X) := by rw [hX]; rfl
          rw [← hX] at HS
          have HX := hid hX
          clear hX
          have HS1 : Hid (Led w wr [tOwns elInt w.heap.size 3 (.slice (some ⟨g, 0, none⟩) n cV) (passTo (fun i => M.testBit i) fs X 0), tBlk w.heap.size 35 #[.slice A n c, .slice A' m d]]) := HS
          clear HS
          go_wp2_with fail
          go_loopw [7, 8] (fun b i wr => ∃ j : Nat, j ≤ m ∧ i = .int .i64 j ∧ b = .bool (chgB (fun i => M.testBit i) fs X j) ∧ Hid (Led w wr [tOwns elInt w.heap.size 3 (.slice (some ⟨g, 0, none⟩) n cV) (passTo (fun i => M.testBit i) fs X j), tBlk w.heap.size 35 #[.slice A n c, .slice A' m d]])) (fun _ i _ => m - (intOf i).toNat)
          case atStart => exact ⟨0, Nat.zero_le _, rfl, rfl, HS1⟩
          case round =>
            clear HS1
            obtain ⟨j, hj, rfl, rfl, HS⟩ := hrel
            have p1 := HS.out.cell 1 1 rfl rfl
            obtain ⟨ch, hch⟩ : ∃ ch, ch = chgB (fun i => M.testBit i) fs X j := ⟨_, rfl⟩
            rw [← hch]
            have HCH := hid hch
            clear hch
            by_cases hlt2 : j < m
            · obtain ⟨b, o, rfl, _, hc⟩ := HF.out.fibs.at_ hlt2
              obtain ⟨f, hfj⟩ := get_of (k := j) hlf.out hlt2
              have f0 := bl_cell HS.out.bl (hc j f hfj 0 _ rfl)
              have f1 := bl_cell HS.out.bl (hc j f hfj 1 _ rfl)
              simp only [elFib, Nat.add_zero] at f0 f1
              have hfd : fibD fs j = f := getD_of hfj
              have hends := HE.out j (by rw [hlf.out]; exact hlt2)
              rw [hfd] at hends
              obtain ⟨a, ha⟩ : ∃ a : Nat, f.a = (a : Int) := ⟨f.a.toNat, by omega⟩
              obtain ⟨e, hb⟩ : ∃ e : Nat, f.b = (e : Int) := ⟨f.b.toNat, by omega⟩
              rw [ha, hb] at hends
              rw [ha] at f0
              rw [hb] at f1
              have ia : (a : Int) < (n : Int) := by omega
              have ie : (e : Int) < (n : Int) := by omega
              have ij : (j : Int) < (m : Int) := by omega
              have P1 : ∀ w', Cls wr w' → w'.cell? ⟨w.heap.size, 1, none⟩ = some (.slice (some ⟨b, o, none⟩) m d) := fun _ h => h.cell p1
              have F0 : ∀ w', Cls wr w' → w'.cell? ⟨b, o + j * 4, none⟩ = some (.int .i64 (a : Int)) := fun _ h => h.cell f0
              have F1 : ∀ w', Cls wr w' → w'.cell? ⟨b, o + j * 4 + 1, none⟩ = some (.int .i64 (e : Int)) := fun _ h => h.cell f1
              clear hc hfj f0 f1
              go_wp2_with fail
              refine region_cls (by kernel_rfl) (by kernel_rfl) ?_
              repeat (first
                | ((with_reducible refine quiet_pos ?_ (fun K hK => ?_))
                   · rfl
                   apply Exists.intro
                   refine ⟨fun w' hw' => ?_, ?_⟩
                   · go_simp
                     with_reducible rfl
                   simp only [Act.put, List.setIfInBounds_toArray, List.set_cons_zero, List.set_cons_succ]
                   refine hK _ ?_; clear hK K)
                | ((with_reducible refine quiet_neg ?_ (fun K hK => ?_))
                   · rfl
                   simp only [Act.put, List.setIfInBounds_toArray, List.set_cons_zero, List.set_cons_succ]
                   refine hK _ ?_; clear hK K))
              with_reducible refine wpQuiet_nil ?_
              intro wz hwz'
              go_wp2_with fail
              have hS := HS.out.step hwz'
              clear HS P1 F0 F1 hwz' p1
              have hMB := HMB.out
              have iu : IntKind.u64.wrap (j : Int) = (j : Int) := by rw [IntKind.wrap_u64]; omega
              have imn : min j 64 = j := by omega
              have hdv : ((M : Int) / 2 ^ j) = ((M / 2 ^ j : Nat) : Int) := by simp
              have ib := bits_and_one hMB j
              rw [← hdv] at ib
              clear hdv
              cases gb : M.testBit j
              · rw [gb] at ib
                simp only [Bool.false_eq_true, if_false] at ib
                have hpl : Hid ((passTo (fun i => M.testBit i) fs X j).length = n) := (passTo_len X j).trans hXl.out
                have HP : Hid (passTo (fun i => M.testBit i) fs X (j + 1) = joinF f (passTo (fun i => M.testBit i) fs X j)) := by unfold Hid; rw [passTo_no gb, hfd]
                have HC2 : Hid (chgB (fun i => M.testBit i) fs X (j + 1) = (ch || !(valL (passTo (fun i => M.testBit i) fs X j) a == valL (passTo (fun i => M.testBit i) fs X j) e))) := by
                  show (chgB (fun i => M.testBit i) fs X j || (!(M.testBit j) && !(valL (passTo (fun i => M.testBit i) fs X j) (fibD fs j).a.toNat == valL (passTo (fun i => M.testBit i) fs X j) (fibD fs j).b.toNat))) = _
                  rw [← HCH.out, gb, hfd, ha, hb]; rfl
                generalize passTo (fun i => M.testBit i) fs X j = Y at *
                have v0 := hS.int_at 0 rfl (j := a) (by rw [hpl.out]; omega)
                have v1 := hS.int_at 0 rfl (j := e) (by rw [hpl.out]; omega)
                have V0 : ∀ w', Cls wz w' → w'.cell? ⟨g, a, none⟩ = some (.int .i64 (valL Y a)) := fun _ h => h.cell v0
                have V1 : ∀ w', Cls wz w' → w'.cell? ⟨g, e, none⟩ = some (.int .i64 (valL Y e)) := fun _ h => h.cell v1
                clear v0 v1
                cases gv : (valL Y a == valL Y e)
                · have HJ : Hid (joinF f Y = (Y.set a (min (valL Y a) (valL Y e))).set e (min (valL Y a) (valL Y e))) := by unfold Hid joinF; rw [ha, hb]; simp
                  have HQ : Hid (chgB (fun i => M.testBit i) fs X (j + 1) = true) := by unfold Hid; rw [HC2.out, gv]; simp
                  clear HC2 HCH hfd ha hb gb
                  refine region_cls (by kernel_rfl) (by kernel_rfl) ?_
                  repeat (first
                    | ((with_reducible refine quiet_pos ?_ (fun K hK => ?_))
                       · rfl
                       apply Exists.intro
                       refine ⟨fun w' hw' => ?_, ?_⟩
                       · go_simp
                         with_reducible rfl
                       simp only [Act.put, List.setIfInBounds_toArray, List.set_cons_zero, List.set_cons_succ]
                       refine hK _ ?_; clear hK K)
                    | ((with_reducible refine quiet_neg ?_ (fun K hK => ?_))
                       · rfl
                       simp only [Act.put, List.setIfInBounds_toArray, List.set_cons_zero, List.set_cons_succ]
                       refine hK _ ?_; clear hK K))
                  with_reducible refine wpQuiet_nil ?_
                  intro wz hwz'
                  have hS2 := hS.step hwz'
                  have V0' : ∀ w', Cls wz w' → w'.cell? ⟨g, a, none⟩ = some (.int .i64 (valL Y a)) := fun _ h => V0 _ (bl_then hwz' h)
                  have V1' : ∀ w', Cls wz w' → w'.cell? ⟨g, e, none⟩ = some (.int .i64 (valL Y e)) := fun _ h => V1 _ (bl_then hwz' h)
                  clear hS V0 V1 hwz'
                  go_wp2_with fail
                  refine region_cls (by kernel_rfl) (by kernel_rfl) ?_
                  repeat (first
                    | ((with_reducible refine quiet_pos ?_ (fun K hK => ?_))
                       · rfl
                       apply Exists.intro
                       refine ⟨fun w' hw' => ?_, ?_⟩
                       · go_simp
                         first
                           | with_reducible rfl
                           | (go_at_call 120; with_reducible exact hw'.same (least_any _ _ _))
                       simp only [Act.put, List.setIfInBounds_toArray, List.set_cons_zero, List.set_cons_succ]
                       refine hK _ ?_; clear hK K)
                    | ((with_reducible refine quiet_neg ?_ (fun K hK => ?_))
                       · rfl
                       simp only [Act.put, List.setIfInBounds_toArray, List.set_cons_zero, List.set_cons_succ]
                       refine hK _ ?_; clear hK K))
                  with_reducible refine wpQuiet_nil ?_
                  intro wz hwz'
                  have hS := hS2.step hwz'
                  clear hS2 V0' V1' hwz'
                  have v0 := hS.int_at 0 rfl (j := a) (by rw [hpl.out]; omega)
                  have v1 := hS.int_at 0 rfl (j := e) (by rw [hpl.out]; omega)
                  have y0 := hS.int_free 0 rfl a
                  have y1 := hS.int_free 0 rfl e
                  have hS3 := hS.int_set 0 rfl (j := a) (by rw [hpl.out]; omega) (min (valL Y a) (valL Y e))
                  have v2 := hS3.int_at 0 rfl (j := e) (by simp; rw [hpl.out]; omega)
                  have y2 := hS3.int_free 0 rfl e
                  have HS4 := hid (hS3.int_set 0 rfl (j := e) (by simp; rw [hpl.out]; omega) (min (valL Y a) (valL Y e)))
                  clear hS hS3
                  go_wp2_with fail
                  refine ⟨?_, by simp [intOf]; omega⟩
                  first
                    | exact ⟨j + 1, by omega, by go_num, by rw [HQ.out], by rw [HP.out, HJ.out]; exact HS4⟩
                    | ((repeat apply Exists.intro); exact ⟨⟨j + 1, by omega, by go_num, by rw [HQ.out], by rw [HP.out, HJ.out]; exact HS4⟩, rfl⟩)
                · have he2 : valL Y a = valL Y e := by simpa using gv
                  have HJ : Hid (joinF f Y = Y) := by
                    refine joinF_same (n := n) hpl.out (by omega) (by omega) (by omega) ?_
                    rw [ha, hb]; simpa using he2
                  have HQ : Hid (chgB (fun i => M.testBit i) fs X (j + 1) = ch) := by unfold Hid; rw [HC2.out, gv]; simp
                  clear HC2 HCH hfd ha hb he2 gb
                  refine region_cls (by kernel_rfl) (by kernel_rfl) ?_
                  repeat (first
                    | ((with_reducible refine quiet_pos ?_ (fun K hK => ?_))
                       · rfl
                       apply Exists.intro
                       refine ⟨fun w' hw' => ?_, ?_⟩
                       · go_simp
                         with_reducible rfl
                       simp only [Act.put, List.setIfInBounds_toArray, List.set_cons_zero, List.set_cons_succ]
                       refine hK _ ?_; clear hK K)
                    | ((with_reducible refine quiet_neg ?_ (fun K hK => ?_))
                       · rfl
                       simp only [Act.put, List.setIfInBounds_toArray, List.set_cons_zero, List.set_cons_succ]
                       refine hK _ ?_; clear hK K))
                  with_reducible refine wpQuiet_nil ?_
                  intro wz hwz'
                  have HS3 := hid (hS.step hwz')
                  clear hS
                  go_wp2_with fail
                  refine ⟨?_, by simp [intOf]; omega⟩
                  first
                    | exact ⟨j + 1, by omega, by go_num, by rw [HQ.out], by rw [HP.out, HJ.out]; exact HS3⟩
                    | ((repeat apply Exists.intro); exact ⟨⟨j + 1, by omega, by go_num, by rw [HQ.out], by rw [HP.out, HJ.out]; exact HS3⟩, rfl⟩)
              · rw [gb] at ib
                simp only [if_true] at ib
                have HP : Hid (passTo (fun i => M.testBit i) fs X (j + 1) = passTo (fun i => M.testBit i) fs X j) := by unfold Hid; rw [passTo_succ, gb]; rfl
                have HQ : Hid (chgB (fun i => M.testBit i) fs X (j + 1) = ch) := by
                  show (chgB (fun i => M.testBit i) fs X j || (!(M.testBit j) && _)) = _
                  rw [← HCH.out, gb]; simp
                clear HCH hfd ha hb gb
                refine region_cls (by kernel_rfl) (by kernel_rfl) ?_
                repeat (first
                  | ((with_reducible refine quiet_pos ?_ (fun K hK => ?_))
                     · rfl
                     apply Exists.intro
                     refine ⟨fun w' hw' => ?_, ?_⟩
                     · go_simp
                       with_reducible rfl
                     simp only [Act.put, List.setIfInBounds_toArray, List.set_cons_zero, List.set_cons_succ]
                     refine hK _ ?_; clear hK K)
                  | ((with_reducible refine quiet_neg ?_ (fun K hK => ?_))
                     · rfl
                     simp only [Act.put, List.setIfInBounds_toArray, List.set_cons_zero, List.set_cons_succ]
                     refine hK _ ?_; clear hK K))
                with_reducible refine wpQuiet_nil ?_
                intro wz hwz'
                have HS3 := hid (hS.step hwz')
                clear hS
                go_wp2_with fail
                refine ⟨?_, by simp [intOf]; omega⟩
                first
                  | exact ⟨j + 1, by omega, by go_num, by rw [HQ.out], by rw [HP.out]; exact HS3⟩
                  | ((repeat apply Exists.intro); exact ⟨⟨j + 1, by omega, by go_num, by rw [HQ.out], by rw [HP.out]; exact HS3⟩, rfl⟩)
            · have hjm : j = fs.length := by have := hlf.out; omega
              have HR : Hid (rndL (fun i => M.testBit i) fs n (r + 1) = passTo (fun i => M.testBit i) fs X j) := by unfold Hid; rw [HN.out, hjm]; rfl
              have HG1 : Hid (ch = true → r + 1 ≤ n) := fun hc => by
                apply Classical.byContradiction
                intro hlt
                have h1 := rndL_late (q := fun i => M.testBit i) HE.out (show n ≤ r by omega)
                rw [HN.out, ← HX.out] at h1
                exact chgB_yes hXl.out HE.out (Nat.le_of_eq hjm) (by rw [← HCH.out]; exact hc) h1
              have HG2 : Hid (ch = false → rndL (fun i => M.testBit i) fs n (r + 1) = compL (fun i => M.testBit i) fs n) := fun hc => by
                have h1 := chgB_no (q := fun i => M.testBit i) hXl.out HE.out (Nat.le_of_eq hjm) (by rw [← HCH.out]; exact hc)
                have h2 : rndL (fun i => M.testBit i) fs n (r + 1) = rndL (fun i => M.testBit i) fs n r := by rw [HR.out, h1, HX.out]
                rw [h2]
                exact rndL_done HE.out h2
              clear hjm
              go_wp2_with fail
              go_roundg (gk - 1)
              case measure => omega
              case rel => exact ⟨r + 1, ch, rfl, by omega, HG1, HG2, by rw [HR.out]; exact HS⟩
end
end Go.Proofs.Ytjklphlgmlomjaa
/- OtherEnd of the program and of the reference, walked. Conditions: none. -/
namespace Go.Proofs.Ytjklphlgmlomjaa
open Go.RowKit
instance : Inhabited ByteArray := ⟨ByteArray.empty⟩
def oeF (fs : List Fib) (i v : Int) : Int := otherF (fs.getD i.toNat default) v
def oeB (xs : List ByteArray) (fs : List Fib) (i v : Int) : Bool := goodB xs fs && inB 0 ((fs.length : Int) - 1) i && !decide (oeF fs i v < 0)
def oeI (xs : List ByteArray) (fs : List Fib) (i v : Int) : Int := if oeB xs fs i v then oeF fs i v else 0
section
variable {n c m d : Nat} {A A' : Option Addr} {xs : List ByteArray} {fs : List Fib}
theorem inB_idx {i : Int} {m : Nat} (h : inB 0 ((m : Int) - 1) i = true) : 0 ≤ i ∧ i < m := by unfold inB at h; simp at h; omega
end
end Go.Proofs.Ytjklphlgmlomjaa
/- ComponentsOf of both sides, walked. Conditions: none. -/
namespace Go.Proofs.Ytjklphlgmlomjaa
open Go.RowKit
section
variable {n c m d c' : Nat} {A A' V : Option Addr} {xs : List ByteArray} {fs : List Fib} {l : List Int}
/-- The list is a set of fibers of a valid network. -/
def coB (xs : List ByteArray) (fs : List Fib) (l : List Int) : Bool := goodB xs fs && risB 0 ((fs.length : Int) - 1) l
def coL (xs : List ByteArray) (fs : List Fib) (l : List Int) : List Int := if coB xs fs l then compL (goneF l) fs xs.length else []
theorem coB_mem (h : coB xs fs l = true) : ∀ x ∈ l, 0 ≤ x ∧ x < fs.length := by
  intro x hx
  unfold coB risB at h
  rw [Bool.and_eq_true] at h
  obtain ⟨k, hk, e⟩ := List.mem_iff_getElem.1 hx
  have h1 := allB_iff.1 h.2 k hk
  unfold riseAt at h1
  rw [Bool.and_eq_true, getD_of (by rw [List.getElem?_eq_getElem hk, e])] at h1
  exact inB_idx h1.1
theorem coL_len : (coL xs fs l).length ≤ 8 := by
  unfold coL
  cases g : coB xs fs l
  · simp
  · unfold coB at g
    rw [Bool.and_eq_true] at g
    have := (goodB_bd g.1).2.1
    simp [compL_len]; omega
theorem passTo_congr {q q' : Nat → Bool} {X : List Int} : ∀ j, (∀ i, i < j → q i = q' i) → passTo q fs X j = passTo q' fs X j := by
  intro j
  induction j with
  | zero => intro _; rfl
  | succ j ih => intro h; rw [passTo_succ, passTo_succ, h j (by omega), ih (fun i hi => h i (by omega))]
theorem compL_congr {q q' : Nat → Bool} (h : ∀ i, i < fs.length → q i = q' i) : compL q fs n = compL q' fs n := by
  suffices hh : ∀ k, rndL q fs n k = rndL q' fs n k from hh n
  intro k
  induction k with
  | zero => rfl
  | succ k ih => rw [rndL_succ, rndL_succ, ih]; exact passTo_congr _ h
/-- The labels by a set's number. -/
theorem compL_mask (h : coB xs fs l = true) : compL (fun i => (maskN l).testBit i) fs n = compL (goneF l) fs n :=
  compL_congr fun i _ => maskN_bit (fun x hx => (coB_mem h x hx).1) i
theorem mask_small (h : coB xs fs l = true) : maskN l < 2 ^ 20 ∧ ∀ x ∈ l, 0 ≤ x ∧ x < 20 := by
  have hg : goodB xs fs = true := by unfold coB at h; rw [Bool.and_eq_true] at h; exact h.1
  have h14 := (goodB_bd hg).2.2
  have hx : ∀ x ∈ l, 0 ≤ x ∧ x < 20 := fun x hx => by have := coB_mem h x hx; omega
  exact ⟨maskTo_lt hx _ (Nat.le_refl _), hx⟩
end
end Go.Proofs.Ytjklphlgmlomjaa
/- The risk group of a fiber: the reference's, walked. Conditions: none. -/
namespace Go.Proofs.Ytjklphlgmlomjaa
open Go.RowKit
variable {n c m d : Nat} {A A' : Option Addr} {xs : List ByteArray} {fs : List Fib}
def riskF (fs : List Fib) (j : Nat) : Int := (fs.getD j ⟨0, 0, 0, 0⟩).risk
/-- The fibers that fail together with fiber i. -/
def groupL (fs : List Fib) (i : Nat) : List Int := if riskF fs i == 0 then [(i : Int)] else idsTo (fun j => riskF fs j == riskF fs i) fs.length
theorem riskF_of {j : Nat} {f : Fib} (h : fs[j]? = some f) : riskF fs j = f.risk := by unfold riskF; rw [getD_of h]
theorem filled_int1 (s : Int) : Filled elInt #[.int .i64 s] [s] 1 := by
  intro j x hj hx i u hu
  obtain rfl : j = 0 := by omega
  simp at hx; subst hx
  match i, hu with
  | 0, hu => simp [elInt] at hu; subst hu; rfl
set_option maxHeartbeats 1000000 in
set_option maxRecDepth 100000 in
theorem l2Group_any (i : Nat) (w : World) (h : NetIs w A n c A' m d xs fs) (hi' : i < m) :
    Calls Try.prog 125 #[.agg #[.slice A n c, .slice A' m d], .int .i64 i] w fun e w' => ∃ s : Sl, e = .returned (slV s) ∧ Owns elInt w' w.heap.size 3 (slV s) (groupL fs i) ∧ Below w.heap.size w w' := by
  obtain ⟨i0, hi, hz0, hz1, hz2⟩ := info_parts int_info
  have hb0 := bl_alloc (Below.refl w.heap.size w) (.cells #[.slice A n c, .slice A' m d] 35)
  have hx0 : Blk (w.alloc (.cells #[.slice A n c, .slice A' m d] 35)) w.heap.size 35 #[.slice A n c, .slice A' m d] := Blk.new _ _ _
  have h0 := h.grow hb0
  have hlf := h.flen
  have hm := h.mle
  have hsz0 : (w.alloc (.cells #[.slice A n c, .slice A' m d] 35)).heap.size = w.heap.size + 1 := by simp
  have q1 := hx0.cell 1
  simp at q1
  obtain ⟨fi, hfi⟩ := get_of (k := i) hlf hi'
  obtain ⟨b, o, rfl, _, hc⟩ := h0.fibs.at_ hi'
  have fr := hc i fi hfi 3 _ rfl
  simp only [elFib] at fr
  cases g : (fi.risk == 0)
  · have H : Hid (groupL fs i = idsTo (fun j => riskF fs j == fi.risk) m) := by unfold Hid groupL; rw [riskF_of hfi, g, hlf]; rfl
    have hoe : Hid (Owns elInt ((w.alloc (.cells #[.slice A n c, .slice (some ⟨b, o, none⟩) m d] 35)).alloc (.cells #[] 3)) (w.heap.size + 1) 3 (.slice (some ⟨w.heap.size + 1, 0, none⟩) 0 0) (idsTo (fun j => riskF fs j == fi.risk) 0)) :=
      Owns.of_blk (n := 0) (cap := 0) (cur := #[]) (by have := Blk.new (w.alloc (.cells #[.slice A n c, .slice (some ⟨b, o, none⟩) m d] 35)) 3 #[]; simpa using this) (Nat.le_refl _) rfl (Nat.le_refl _) rfl (by decide) (Filled.zero _ _ _)
    have hbe : Below (w.alloc (.cells #[.slice A n c, .slice (some ⟨b, o, none⟩) m d] 35)).heap.size (w.alloc (.cells #[.slice A n c, .slice (some ⟨b, o, none⟩) m d] 35)) ((w.alloc (.cells #[.slice A n c, .slice (some ⟨b, o, none⟩) m d] 35)).alloc (.cells #[] 3)) := bl_alloc (Below.refl _ _) _
    have HC := hid hc
    clear hfi hc
    go_enter Try.func125, Try.ntmps125
    go_wp2_with fail
    generalize hw0 : w.alloc (.cells #[.slice A n c, .slice (some ⟨b, o, none⟩) m d] 35) = w0 at *
    go_loopw [5, 6] (fun v i wr => ∃ k : Nat, k ≤ m ∧ i = .int .i64 k ∧ Hid (Owns elInt wr (w.heap.size + 1) 3 v (idsTo (fun j => riskF fs j == fi.risk) k)) ∧ Below w0.heap.size w0 wr) (fun _ i _ => m - (intOf i).toNat)
    case atStart => exact ⟨0, Nat.zero_le _, rfl, hoe, hbe⟩
    case round =>
      clear hbe hoe q1
      obtain ⟨k, hk, rfl, hown, hb⟩ := hrel
      have q1 := (hx0.below hb hx0.lt).cell 1
      simp at q1
      by_cases hlt : k < m
      · obtain ⟨f, hfk⟩ := get_of (k := k) hlf hlt
        have f3 := bl_cell hb (HC.out k f hfk 3 _ rfl)
        have fr' := bl_cell hb fr
        simp only [elFib] at f3
        have T0 : ∀ w', Cls wr w' → w'.cell? ⟨b, o + k * 4 + 3, none⟩ = some (.int .i64 f.risk) := fun _ h => h.cell f3
        have T1 : ∀ w', Cls wr w' → w'.cell? ⟨b, o + i * 4 + 3, none⟩ = some (.int .i64 fi.risk) := fun _ h => h.cell fr'
        have Q1 : ∀ w', Cls wr w' → w'.cell? ⟨w.heap.size, 1, none⟩ = some (.slice (some ⟨b, o, none⟩) m d) := fun _ h => h.cell q1
        have iz : (k : Int) < (m : Int) := by omega
        have iz2 : (i : Int) < (m : Int) := by omega
        have hp : Hid ((riskF fs k == fi.risk) = (f.risk == fi.risk)) := by unfold Hid; rw [riskF_of hfk]
        have hwz := hb.size
        have hll := idsTo_len (fun j => riskF fs j == fi.risk) k
        clear hfk f3 fr'
        go_wp2
        refine region_cls (by kernel_rfl) (by kernel_rfl) ?_
        repeat (first
          | ((with_reducible refine quiet_pos ?_ (fun K hK => ?_))
             · rfl
             apply Exists.intro
             refine ⟨fun w' hw' => ?_, ?_⟩
             · go_simp
               with_reducible rfl
             simp only [Act.put, List.setIfInBounds_toArray, List.set_cons_zero, List.set_cons_succ]
             refine hK _ ?_; clear hK K)
          | ((with_reducible refine quiet_neg ?_ (fun K hK => ?_))
             · rfl
             simp only [Act.put, List.setIfInBounds_toArray, List.set_cons_zero, List.set_cons_succ]
             refine hK _ ?_; clear hK K))
        with_reducible refine wpQuiet_nil ?_
        intro wz hwz'
        have hbZ := bl_then hb hwz'
        have hoZ : Hid (Owns elInt _ _ _ _ _) := hown.out.below hwz'
        have hzz := hwz'.size
        clear hown T0 T1 Q1 q1 hb
        cases g3 : (f.risk == fi.risk)
        · have HN : Hid (idsTo (fun j => riskF fs j == fi.risk) (k + 1) = idsTo (fun j => riskF fs j == fi.risk) k) := idsTo_no (hp.out.trans g3)
          have HO := hoZ
          rw [← HN.out] at HO
          clear hp hoZ
          go_wp2
          exact ⟨⟨k + 1, by omega, by go_num, HO, hbZ⟩, by simp [intOf]; omega⟩
        · have HN : Hid (idsTo (fun j => riskF fs j == fi.risk) (k + 1) = idsTo (fun j => riskF fs j == fi.risk) k ++ [(k : Int)]) := idsTo_yes (hp.out.trans g3)
          have hbG := bl_alloc hbZ (.cells #[.int .i64 k] 3)
          have hoG : Hid (Owns elInt _ _ _ _ _) := hoZ.out.below (bl_alloc (Below.refl _ _) (.cells #[.int .i64 k] 3))
          clear hp hoZ
          go_wp2_with (first
            | (at_builtin; refine wpList_append_own _ rfl _ _ 26 rfl (w.heap.size + 1) 3 i0 (.int .i64 0) 1 8 Try.underlying26 hi hz0 hz1 hz2 rfl (by decide) _ (idsTo (fun j => riskF fs j == fi.risk) k).length ((idsTo (fun j => riskF fs j == fi.risk) k).flatMap elInt.cells) rfl hoG.out ⟨_, 0, none⟩ 1 1 [.int .i64 k] rfl rfl (one_new _ _ _ (by simp)) (fun u hu => by simp at hu; subst hu; rfl) (by unfold maxLen; omega) (by omega) (by simp; omega) ?_)
            | go_in)
          intro v' w1 hown' hgrow _
          have HO : Hid (Owns elInt w1 (w.heap.size + 1) 3 v' (idsTo (fun j => riskF fs j == fi.risk) (k + 1))) := by unfold Hid; rw [HN.out]; exact Owns.appended hown'
          have hbN := bl_grown hbG hgrow (fun g hg => by have := (hoG.out.lies g hg).1; omega)
          clear hown' hgrow hoG hbG
          go_wp2
          go_roundw
          case rel => exact ⟨k + 1, by omega, by go_num, HO, hbN⟩
          case measure => simp [intOf]; omega
      · have hkm : k = m := by omega
        rw [hkm] at hown
        obtain ⟨Ao, co, rfl, _, _, _⟩ := hown.out.form
        clear hlt
        go_wp2
        go_ret
        exact ⟨⟨Ao, _, co⟩, rfl, by rw [H.out]; exact hown.out.base (by omega), hb0.trans (hb.mono (by omega))⟩
  · have H : Hid (groupL fs i = [(i : Int)]) := by unfold Hid groupL; rw [riskF_of hfi, g]; rfl
    clear hfi hc
    go_enter Try.func125, Try.ntmps125
    go_wp2_with fail
    go_ret
    exact ⟨⟨some ⟨w.heap.size + 1, 0, none⟩, 1, 1⟩, rfl, by rw [H.out]; exact Owns.of_blk (n := 1) (cap := 1) (cur := #[.int .i64 i]) (by have := Blk.new (w.alloc (.cells #[.slice A n c, .slice (some ⟨b, o, none⟩) m d] 35)) 3 #[.int .i64 i]; simpa using this) (Nat.le_succ _) rfl (Nat.le_refl _) rfl (by decide) (filled_int1 _), bl_alloc hb0 _⟩
end Go.Proofs.Ytjklphlgmlomjaa
/- impl.groups: the risk groups of a network, walked. Conditions: none. -/
namespace Go.Proofs.Ytjklphlgmlomjaa
open Go.RowKit
variable {n c m d : Nat} {A A' : Option Addr} {xs : List ByteArray} {fs : List Fib}
/-- The rows of the risks 1 .. t that some fiber bears. -/
def rkRow (fs : List Fib) (t : Nat) : List Int := idsTo (fun j => riskF fs j == ((t : Int) + 1)) fs.length
def rkTo (fs : List Fib) (t : Nat) : List (List Int) := ((List.range t).map (rkRow fs)).filter fun l => !l.isEmpty
theorem rkTo_zero (fs : List Fib) : rkTo fs 0 = [] := rfl
theorem rkTo_no {t : Nat} (h : rkRow fs t = []) : rkTo fs (t + 1) = rkTo fs t := by simp [rkTo, List.range_succ, List.filter_append, h]
theorem rkTo_yes {t : Nat} (h : rkRow fs t ≠ []) : rkTo fs (t + 1) = rkTo fs t ++ [rkRow fs t] := by simp [rkTo, List.range_succ, List.filter_append, h]
theorem rkTo_len (fs : List Fib) (t : Nat) : (rkTo fs t).length ≤ t := by
  unfold rkTo
  exact Nat.le_trans (List.length_filter_le _ _) (by simp)
/-- The rows of the fibers without a risk. -/
def zrTo (fs : List Fib) (k : Nat) : List (List Int) := (idsTo (fun j => riskF fs j == 0) k).map fun x => [x]
theorem zrTo_zero (fs : List Fib) : zrTo fs 0 = [] := rfl
theorem zrTo_no {k : Nat} (h : (riskF fs k == 0) = false) : zrTo fs (k + 1) = zrTo fs k := by unfold zrTo; rw [idsTo_no h]
theorem zrTo_yes {k : Nat} (h : (riskF fs k == 0) = true) : zrTo fs (k + 1) = zrTo fs k ++ [[(k : Int)]] := by unfold zrTo; rw [idsTo_yes h]; simp
theorem zrTo_len (fs : List Fib) (k : Nat) : (zrTo fs k).length ≤ k := by unfold zrTo; rw [List.length_map]; exact idsTo_len _ _
/-- All risk groups. -/
def groupsL (fs : List Fib) : List (List Int) := rkTo fs 9 ++ zrTo fs fs.length
set_option maxHeartbeats 2000000 in
set_option maxRecDepth 100000 in
theorem groups_any (w : World) (h : NetIs w A n c A' m d xs fs) :
    Calls Try.prog 86 #[.agg #[.slice A n c, .slice A' m d]] w fun e w' => ∃ s ss, e = .returned (slV s) ∧ OwnsSS w' w.heap.size (slV s) ss (groupsL fs) ∧ Below w.heap.size w w' := by
  obtain ⟨i0, hi, hz0, hz1, hz2⟩ := info_parts int_info
  obtain ⟨j0, hj, hy0, hy1, hy2⟩ := info_parts sl_info
  have hb0 := bl_alloc (Below.refl w.heap.size w) (.cells #[.slice A n c, .slice A' m d] 35)
  have hx0 : Blk (w.alloc (.cells #[.slice A n c, .slice A' m d] 35)) w.heap.size 35 #[.slice A n c, .slice A' m d] := Blk.new _ _ _
  have h0 := h.grow hb0
  have hlf := h.flen
  have hm := h.mle
  have hsz0 : (w.alloc (.cells #[.slice A n c, .slice A' m d] 35)).heap.size = w.heap.size + 1 := by simp
  have hbe : Below (w.alloc (.cells #[.slice A n c, .slice A' m d] 35)).heap.size (w.alloc (.cells #[.slice A n c, .slice A' m d] 35)) ((w.alloc (.cells #[.slice A n c, .slice A' m d] 35)).alloc (.cells #[] 26)) := bl_alloc (Below.refl _ _) _
  have hoe : Hid (OwnsSS ((w.alloc (.cells #[.slice A n c, .slice A' m d] 35)).alloc (.cells #[] 26)) (w.heap.size + 1) (.slice (some ⟨w.heap.size + 1, 0, none⟩) 0 0) [] (rkTo fs 0)) :=
    ⟨Owns.of_blk (E := elSl) (n := 0) (cap := 0) (cur := #[]) (by have := Blk.new (w.alloc (.cells #[.slice A n c, .slice A' m d] 35)) 26 #[]; simpa using this) (Nat.le_refl _) rfl (Nat.le_refl _) rfl (by decide) (Filled.zero _ _ _), rfl, fun i s r h1 => by simp at h1, fun i j s t g _ h1 => by simp at h1⟩
  go_enter Try.func86, Try.ntmps86
  go_wp2_with fail
  generalize hw0 : w.alloc (.cells #[.slice A n c, .slice A' m d] 35) = w0 at *
  go_loopw [3, 4] (fun v i wr => ∃ (t : Nat) (ss : List Sl), t ≤ 9 ∧ i = .int .i64 ((t : Int) + 1) ∧ Hid (OwnsSS wr (w.heap.size + 1) v ss (rkTo fs t)) ∧ Below w0.heap.size w0 wr) (fun _ i _ => 10 - (intOf i).toNat)
  case atStart => exact ⟨0, [], Nat.zero_le _, rfl, hoe, hbe⟩
  case round =>
    clear hbe hoe
    obtain ⟨t, ss, ht, rfl, hss, hb⟩ := hrel
    have q1 := (hx0.below hb hx0.lt).cell 1
    simp at q1
    have hwz := hb.size
    by_cases htl : t < 9
    · obtain ⟨wo, hwo⟩ : ∃ wo, wo = wr := ⟨_, rfl⟩
      subst hwo
      have hbi : Below wo.heap.size wo (wo.alloc (.cells #[] 3)) := bl_alloc (Below.refl _ _) _
      have hoi : Hid (Owns elInt (wo.alloc (.cells #[] 3)) wo.heap.size 3 (.slice (some ⟨wo.heap.size, 0, none⟩) 0 0) (idsTo (fun j => riskF fs j == ((t : Int) + 1)) 0)) :=
        Owns.of_blk (n := 0) (cap := 0) (cur := #[]) (Blk.new wo 3 #[]) (Nat.le_refl _) rfl (Nat.le_refl _) rfl (by decide) (Filled.zero _ _ _)
      have e9 : decide ((t : Int) + 1 ≤ 9) = true := decide_eq_true (by omega)
      have q2 := ((hx0.below hb hx0.lt).alloc (.cells #[] 3)).cell 1
      simp at q2
      go_wp2_with fail
      clear q1 q2
      go_loopw [5, 19] (fun v i wq => ∃ k : Nat, k ≤ m ∧ i = .int .i64 k ∧ Hid (Owns elInt wq wo.heap.size 3 v (idsTo (fun j => riskF fs j == ((t : Int) + 1)) k)) ∧ Below wo.heap.size wo wq) (fun _ i _ => m - (intOf i).toNat)
      case atStart => exact ⟨0, Nat.zero_le _, rfl, hoi, hbi⟩
      case round =>
        clear hbi hoi
        obtain ⟨k, hk, rfl, hown, hq⟩ := hrel
        have hbq := bl_then hb hq
        have zq := hq.size
        by_cases hlt : k < m
        · obtain ⟨b, o, rfl, _, hc⟩ := h0.fibs.at_ hlt
          obtain ⟨f, hfk⟩ := get_of (k := k) hlf hlt
          have f0 := bl_cell hbq (hc k f hfk 0 _ rfl)
          have f1 := bl_cell hbq (hc k f hfk 1 _ rfl)
          have f2 := bl_cell hbq (hc k f hfk 2 _ rfl)
          have f3 := bl_cell hbq (hc k f hfk 3 _ rfl)
          simp only [elFib, Nat.add_zero] at f0 f1 f2 f3
          have hp : Hid ((riskF fs k == ((t : Int) + 1)) = (f.risk == ((t : Int) + 1))) := by unfold Hid; rw [riskF_of hfk]
          have hbF := bl_alloc hq (.cells #[.int .i64 f.a, .int .i64 f.b, .int .i64 f.len, .int .i64 f.risk] 64)
          have hbF1 := bl_alloc (Below.refl wr.heap.size wr) (.cells #[.int .i64 f.a, .int .i64 f.b, .int .i64 f.len, .int .i64 f.risk] 64)
          have hoF : Hid (Owns elInt _ _ _ _ _) := hown.out.below hbF1
          have hll := idsTo_len (fun j => riskF fs j == ((t : Int) + 1)) k
          clear hc hfk hown hbF1
          cases g3 : (f.risk == ((t : Int) + 1))
          · have HN : Hid (idsTo (fun j => riskF fs j == ((t : Int) + 1)) (k + 1) = idsTo (fun j => riskF fs j == ((t : Int) + 1)) k) := idsTo_no (hp.out.trans g3)
            have HO := hoF
            rw [← HN.out] at HO
            clear hp hoF
            go_wp2
            exact ⟨⟨k + 1, by omega, by go_num, HO, hbF⟩, by simp [intOf]; omega⟩
          · have HN : Hid (idsTo (fun j => riskF fs j == ((t : Int) + 1)) (k + 1) = idsTo (fun j => riskF fs j == ((t : Int) + 1)) k ++ [(k : Int)]) := idsTo_yes (hp.out.trans g3)
            have hbG := bl_alloc hbF (.cells #[.int .i64 k] 3)
            have hoG : Hid (Owns elInt _ _ _ _ _) := hoF.out.below (bl_alloc (Below.refl _ _) (.cells #[.int .i64 k] 3))
            clear hp hoF
            go_wp2_with (first
              | (at_builtin; refine wpList_append_own _ rfl _ _ 26 rfl wo.heap.size 3 i0 (.int .i64 0) 1 8 Try.underlying26 hi hz0 hz1 hz2 rfl (by decide) _ (idsTo (fun j => riskF fs j == ((t : Int) + 1)) k).length ((idsTo (fun j => riskF fs j == ((t : Int) + 1)) k).flatMap elInt.cells) rfl hoG.out ⟨_, 0, none⟩ 1 1 [.int .i64 k] rfl rfl (one_new _ _ _ (by simp)) (fun u hu => by simp at hu; subst hu; rfl) (by unfold maxLen; omega) (by omega) (by simp; omega) ?_)
              | go_in)
            intro v' w1 hown' hgrow _
            have HO : Hid (Owns elInt w1 wo.heap.size 3 v' (idsTo (fun j => riskF fs j == ((t : Int) + 1)) (k + 1))) := by unfold Hid; rw [HN.out]; exact Owns.appended hown'
            have hbN := bl_grown hbG hgrow (fun g hg => (hoG.out.lies g hg).1)
            clear hown' hgrow hoG hbG
            go_wp2
            go_roundw
            case rel => first | exact ⟨k + 1, by omega, by go_num, HO, hbN⟩ | ((repeat apply Exists.intro); exact ⟨⟨k + 1, by omega, by go_num, HO, hbN⟩, rfl⟩)
            case measure => simp [intOf]; omega
        · have hkm : k = m := by omega
          rw [hkm] at hown
          have HRW : Hid (idsTo (fun j => riskF fs j == ((t : Int) + 1)) m = rkRow fs t) := by unfold Hid rkRow; rw [hlf]
          rw [HRW.out] at hown
          obtain ⟨Ao, co, rfl, _, _, _⟩ := hown.out.form
          obtain ⟨L, hL⟩ : ∃ L, L = (rkRow fs t).length := ⟨_, rfl⟩
          have HLL := hid hL
          rw [← hL] at hown ⊢
          have hsq := hid (hss.out.below hq)
          clear hlt
          by_cases hL0 : L = 0
          · have e0 : decide (0 < L) = false := by simp [hL0]
            have HT : Hid (rkTo fs (t + 1) = rkTo fs t) := rkTo_no (List.eq_nil_of_length_eq_zero (by rw [← hL, hL0]))
            have HS := hsq
            rw [← HT.out] at HS
            clear hL hL0 hsq hown hss
            go_wp2
            exact ⟨⟨t + 1, ss, by omega, by go_num, HS, hbq⟩, by simp [intOf]; omega⟩
          · have e0 : decide (0 < L) = true := by simp; omega
            have HT : Hid (rkTo fs (t + 1) = rkTo fs t ++ [rkRow fs t]) := rkTo_yes (fun e => hL0 (by rw [hL, e]; rfl))
            have hbG := bl_alloc hbq (.cells #[.slice Ao L co] 26)
            have hq2 := bl_alloc hq (.cells #[.slice Ao L co] 26)
            have hsG := hid (hsq.out.below (bl_alloc (Below.refl _ _) (.cells #[.slice Ao L co] 26)))
            have hr2 : Hid (Owns elInt _ _ _ (slV ⟨Ao, L, co⟩) _) := hown.out.below (bl_alloc (Below.refl _ _) (.cells #[.slice Ao L co] 26))
            have hsl : ss.length ≤ 9 := by have := hsG.out.2.1; have := rkTo_len fs t; omega
            clear hL hL0 hsq hown
            go_wp2_with (first
              | (at_builtin; refine wpList_append_own _ rfl _ _ 92 rfl (w.heap.size + 1) 26 j0 (.slice none 0 0) 1 24 Try.underlying92 hj hy0 hy1 hy2 rfl (by decide) _ ss.length (ss.flatMap elSl.cells) rfl hsG.out.1 ⟨_, 0, none⟩ 1 1 [.slice Ao L co] rfl rfl (one_new _ _ _ (by simp)) (fun u hu => by simp at hu; subst hu; rfl) (by unfold maxLen; omega) (by omega) (by simp; omega) ?_)
              | go_in)
            intro v' w1 hown' hgrow _
            have HP : Hid (OwnsSS w1 (w.heap.size + 1) v' (ss ++ [⟨Ao, L, co⟩]) (rkTo fs (t + 1))) := by
              unfold Hid; rw [HT.out]; exact hss.out.push (s0 := ⟨Ao, L, co⟩) hq2 (by omega) hr2.out (Owns.appended (E := elSl) hown') hgrow
            have hbN := bl_grown hbG hgrow (fun g hg => by have := (hsG.out.1.lies g hg).1; omega)
            clear hown' hgrow hsG hbG hr2 hq2 hss
            go_wp2
            exact ⟨⟨t + 1, _, by omega, by go_num, HP, hbN⟩, by simp [intOf]; omega⟩
    · have ht9 : t = 9 := by omega
      subst ht9
      have hs0 := hss
      rw [show rkTo fs 9 = rkTo fs 9 ++ zrTo fs 0 from by rw [zrTo_zero, List.append_nil]] at hs0
      clear hss
      go_wp2_with fail
      clear q1
      have hbs := hb
      obtain ⟨wo, hwo⟩ : ∃ wo, wo = wr := ⟨_, rfl⟩
      subst hwo
      go_loopw [3, 43] (fun v i wr => ∃ (k : Nat) (ss : List Sl), k ≤ m ∧ i = .int .i64 k ∧ Hid (OwnsSS wr (w.heap.size + 1) v ss (rkTo fs 9 ++ zrTo fs k)) ∧ Below w0.heap.size w0 wr) (fun _ i _ => m - (intOf i).toNat)
      case atStart => exact ⟨0, ss, Nat.zero_le _, rfl, hs0, hbs⟩
      case round =>
        clear hs0 hbs hb hwz
        obtain ⟨k, ss, hk, rfl, hss, hb⟩ := hrel
        have hwz := hb.size
        by_cases hlt : k < m
        · obtain ⟨b, o, rfl, _, hc⟩ := h0.fibs.at_ hlt
          obtain ⟨f, hfk⟩ := get_of (k := k) hlf hlt
          have f0 := bl_cell hb (hc k f hfk 0 _ rfl)
          have f1 := bl_cell hb (hc k f hfk 1 _ rfl)
          have f2 := bl_cell hb (hc k f hfk 2 _ rfl)
          have f3 := bl_cell hb (hc k f hfk 3 _ rfl)
          simp only [elFib, Nat.add_zero] at f0 f1 f2 f3
          have hp : Hid ((riskF fs k == 0) = (f.risk == 0)) := by unfold Hid; rw [riskF_of hfk]
          have hbF := bl_alloc hb (.cells #[.int .i64 f.a, .int .i64 f.b, .int .i64 f.len, .int .i64 f.risk] 64)
          have hbF1 := bl_alloc (Below.refl wr.heap.size wr) (.cells #[.int .i64 f.a, .int .i64 f.b, .int .i64 f.len, .int .i64 f.risk] 64)
          clear hc hfk
          cases g3 : (f.risk == 0)
          · have HN : Hid (zrTo fs (k + 1) = zrTo fs k) := zrTo_no (hp.out.trans g3)
            have HO := hid (hss.out.below hbF1)
            rw [← HN.out] at HO
            clear hp hss
            go_wp2
            exact ⟨⟨k + 1, ss, by omega, by go_num, HO, hbF⟩, by simp [intOf]; omega⟩
          · have HN : Hid (rkTo fs 9 ++ zrTo fs (k + 1) = (rkTo fs 9 ++ zrTo fs k) ++ [[(k : Int)]]) := by unfold Hid; rw [zrTo_yes (hp.out.trans g3), List.append_assoc]
            have hq1 := bl_alloc hbF1 (.cells #[.int .i64 k] 3)
            have hq2 := bl_alloc hq1 (.cells #[.slice (some ⟨wr.heap.size + 1, 0, none⟩) 1 1] 26)
            have hbG := bl_then hb hq2
            have hsG := hid (hss.out.below hq2)
            have hr2 : Hid (Owns elInt (((wr.alloc (.cells #[.int .i64 f.a, .int .i64 f.b, .int .i64 f.len, .int .i64 f.risk] 64)).alloc (.cells #[.int .i64 k] 3)).alloc (.cells #[.slice (some ⟨wr.heap.size + 1, 0, none⟩) 1 1] 26)) wr.heap.size 3 (slV ⟨some ⟨wr.heap.size + 1, 0, none⟩, 1, 1⟩) [(k : Int)]) :=
              (show Owns elInt ((wr.alloc (.cells #[.int .i64 f.a, .int .i64 f.b, .int .i64 f.len, .int .i64 f.risk] 64)).alloc (.cells #[.int .i64 k] 3)) wr.heap.size 3 (.slice (some ⟨wr.heap.size + 1, 0, none⟩) 1 1) [(k : Int)] from Owns.of_blk (n := 1) (cap := 1) (cur := #[.int .i64 k]) (by have := Blk.new (wr.alloc (.cells #[.int .i64 f.a, .int .i64 f.b, .int .i64 f.len, .int .i64 f.risk] 64)) 3 #[.int .i64 k]; simpa using this) (Nat.le_succ _) rfl (Nat.le_refl _) rfl (by decide) (filled_int1 _)).below (bl_alloc (Below.refl _ _) _)
            have hsl : ss.length ≤ 9 + k := by have := hsG.out.2.1; have := rkTo_len fs 9; have := zrTo_len fs k; simp at *; omega
            clear hp hq1 hbF hbF1
            go_wp2_with (first
              | (at_builtin; refine wpList_append_own _ rfl _ _ 92 rfl (w.heap.size + 1) 26 j0 (.slice none 0 0) 1 24 Try.underlying92 hj hy0 hy1 hy2 rfl (by decide) _ ss.length (ss.flatMap elSl.cells) rfl hsG.out.1 ⟨_, 0, none⟩ 1 1 [.slice (some ⟨wr.heap.size + 1, 0, none⟩) 1 1] rfl rfl (one_new _ _ _ (by simp)) (fun u hu => by simp at hu; subst hu; rfl) (by unfold maxLen; omega) (by omega) (by simp; omega) ?_)
              | go_in)
            intro v' w1 hown' hgrow _
            have HP : Hid (OwnsSS w1 (w.heap.size + 1) v' (ss ++ [⟨some ⟨wr.heap.size + 1, 0, none⟩, 1, 1⟩]) (rkTo fs 9 ++ zrTo fs (k + 1))) := by
              unfold Hid; rw [HN.out]; exact hss.out.push (s0 := ⟨some ⟨wr.heap.size + 1, 0, none⟩, 1, 1⟩) hq2 (by omega) hr2.out (Owns.appended (E := elSl) hown') hgrow
            have hbN := bl_grown hbG hgrow (fun g hg => by have := (hsG.out.1.lies g hg).1; omega)
            clear hown' hgrow hsG hbG hr2 hq2 hss
            go_wp2
            refine ⟨?_, by simp [intOf]; omega⟩
            first | exact ⟨k + 1, _, by omega, by go_num, HP, hbN⟩ | ((repeat apply Exists.intro); exact ⟨⟨k + 1, _, by omega, by go_num, HP, hbN⟩, rfl⟩)
        · have hkm : k = m := by omega
          rw [hkm] at hss
          have HG : Hid (groupsL fs = rkTo fs 9 ++ zrTo fs m) := by unfold Hid groupsL; rw [hlf]
          obtain ⟨Ao, co, rfl, _, _, _⟩ := hss.out.1.form
          clear hlt
          go_wp2
          go_ret
          exact ⟨⟨Ao, _, co⟩, ss, rfl, by rw [HG.out]; exact hss.out.base_ (by omega), hb0.trans (hb.mono (by omega))⟩
end Go.Proofs.Ytjklphlgmlomjaa
/- impl.fibersAt walked. Conditions: none. -/
namespace Go.Proofs.Ytjklphlgmlomjaa
open Go.RowKit
variable {n c m d : Nat} {A A' : Option Addr} {xs : List ByteArray} {fs : List Fib}
def touchesF (fs : List Fib) (v : Int) (j : Nat) : Bool := (fs.getD j ⟨0, 0, 0, 0⟩).a == v || (fs.getD j ⟨0, 0, 0, 0⟩).b == v
set_option maxHeartbeats 1000000 in
set_option maxRecDepth 100000 in
theorem fibersAt_any (x : Int) (w : World) (h : NetIs w A n c A' m d xs fs) :
    Calls Try.prog 84 #[.agg #[.slice A n c, .slice A' m d], .int .i64 x] w fun e w' => ∃ v, e = .returned v ∧ Owns elInt w' w.heap.size 3 v (idsTo (touchesF fs x) m) ∧ Below w.heap.size w w' := by
  obtain ⟨i0, hi, hz0, hz1, hz2⟩ := info_parts int_info
  have hb0 := bl_alloc (Below.refl w.heap.size w) (.cells #[.slice A n c, .slice A' m d] 35)
  have hx0 : Blk (w.alloc (.cells #[.slice A n c, .slice A' m d] 35)) w.heap.size 35 #[.slice A n c, .slice A' m d] := Blk.new _ _ _
  have h0 := h.grow hb0
  have q1 := hx0.cell 1
  simp at q1
  have hm := h.mle
  go_enter Try.func84, Try.ntmps84
  go_wp2
  have hbe : Below (w.alloc (.cells #[.slice A n c, .slice A' m d] 35)).heap.size (w.alloc (.cells #[.slice A n c, .slice A' m d] 35)) ((w.alloc (.cells #[.slice A n c, .slice A' m d] 35)).alloc (.cells #[] 3)) := bl_alloc (Below.refl _ _) _
  have hoe : Hid (Owns elInt ((w.alloc (.cells #[.slice A n c, .slice A' m d] 35)).alloc (.cells #[] 3)) (w.heap.size + 1) 3 (.slice (some ⟨w.heap.size + 1, 0, none⟩) 0 0) (idsTo (touchesF fs x) 0)) :=
    Owns.of_blk (n := 0) (cap := 0) (cur := #[]) (by have := Blk.new (w.alloc (.cells #[.slice A n c, .slice A' m d] 35)) 3 #[]; simpa using this) (Nat.le_refl _) rfl (Nat.le_refl _) rfl (by decide) (Filled.zero _ _ _)
  have hsz0 : (w.alloc (.cells #[.slice A n c, .slice A' m d] 35)).heap.size = w.heap.size + 1 := by simp
  generalize hw0 : w.alloc (.cells #[.slice A n c, .slice A' m d] 35) = w0 at *
  go_loopw [5, 12] (fun v i wr => ∃ k : Nat, k ≤ m ∧ i = .int .i64 k ∧ Hid (Owns elInt wr (w.heap.size + 1) 3 v (idsTo (touchesF fs x) k)) ∧ Below w0.heap.size w0 wr) (fun _ i _ => m - (intOf i).toNat)
  case atStart => exact ⟨0, Nat.zero_le _, rfl, hoe, hbe⟩
  case round =>
    clear hbe hoe
    obtain ⟨k, hk, rfl, hown, hb⟩ := hrel
    by_cases hlt : k < m
    · obtain ⟨b, o, rfl, _, hc⟩ := h0.fibs.at_ hlt
      obtain ⟨f, hfk⟩ := get_of (k := k) h0.flen hlt
      have f0 := bl_cell hb (hc k f hfk 0 _ rfl)
      have f1 := bl_cell hb (hc k f hfk 1 _ rfl)
      have f2 := bl_cell hb (hc k f hfk 2 _ rfl)
      have f3 := bl_cell hb (hc k f hfk 3 _ rfl)
      simp only [elFib, Nat.add_zero] at f0 f1 f2 f3
      clear hc
      have hp : Hid (touchesF fs x k = (f.a == x || f.b == x)) := by unfold Hid touchesF; rw [getD_of hfk]
      have hwz := hb.size
      have hbF := bl_alloc hb (.cells #[.int .i64 f.a, .int .i64 f.b, .int .i64 f.len, .int .i64 f.risk] 64)
      have hbG := bl_alloc hbF (.cells #[.int .i64 k] 3)
      have hoF : Hid (Owns elInt _ _ _ _ _) := hown.out.below (bl_alloc (Below.refl _ _) (.cells #[.int .i64 f.a, .int .i64 f.b, .int .i64 f.len, .int .i64 f.risk] 64))
      have hoG : Hid (Owns elInt _ _ _ _ _) := hoF.out.below (bl_alloc (Below.refl _ _) (.cells #[.int .i64 k] 3))
      have hll := idsTo_len (touchesF fs x) k
      clear hown hb
      by_cases hpp : touchesF fs x k = true
      · have HN : Hid (idsTo (touchesF fs x) (k + 1) = idsTo (touchesF fs x) k ++ [(k : Int)]) := idsTo_yes hpp
        rw [hp.out] at hpp
        clear hp hfk hoF hbF
        cases g1 : (f.a == x)
        · have g2 : (f.b == x) = true := by rw [g1] at hpp; simpa using hpp
          clear hpp
          go_wp2_with (first
            | (at_builtin; refine wpList_append_own _ rfl _ _ 26 rfl (w.heap.size + 1) 3 i0 (.int .i64 0) 1 8 Try.underlying26 hi hz0 hz1 hz2 rfl (by decide) _ (idsTo (touchesF fs x) k).length ((idsTo (touchesF fs x) k).flatMap elInt.cells) rfl hoG.out ⟨_, 0, none⟩ 1 1 [.int .i64 k] rfl rfl (one_new _ _ _ (by simp)) (fun u hu => by simp at hu; subst hu; rfl) (by unfold maxLen; omega) (by omega) (by simp; omega) ?_)
            | go_in)
          intro v' w1 hown' hgrow _
          have HO : Hid (Owns elInt w1 (w.heap.size + 1) 3 v' (idsTo (touchesF fs x) (k + 1))) := by unfold Hid; rw [HN.out]; exact Owns.appended hown'
          have hbN := bl_grown hbG hgrow (fun g hg => by have := (hoG.out.lies g hg).1; omega)
          clear hown' hgrow hoG hbG
          go_wp2
          go_roundw
          case rel => exact ⟨k + 1, by omega, by go_num, HO, hbN⟩
          case measure => simp [intOf]; omega
        · clear hpp
          go_wp2_with (first
            | (at_builtin; refine wpList_append_own _ rfl _ _ 26 rfl (w.heap.size + 1) 3 i0 (.int .i64 0) 1 8 Try.underlying26 hi hz0 hz1 hz2 rfl (by decide) _ (idsTo (touchesF fs x) k).length ((idsTo (touchesF fs x) k).flatMap elInt.cells) rfl hoG.out ⟨_, 0, none⟩ 1 1 [.int .i64 k] rfl rfl (one_new _ _ _ (by simp)) (fun u hu => by simp at hu; subst hu; rfl) (by unfold maxLen; omega) (by omega) (by simp; omega) ?_)
            | go_in)
          intro v' w1 hown' hgrow _
          have HO : Hid (Owns elInt w1 (w.heap.size + 1) 3 v' (idsTo (touchesF fs x) (k + 1))) := by unfold Hid; rw [HN.out]; exact Owns.appended hown'
          have hbN := bl_grown hbG hgrow (fun g hg => by have := (hoG.out.lies g hg).1; omega)
          clear hown' hgrow hoG hbG
          go_wp2
          go_roundw
          case rel => exact ⟨k + 1, by omega, by go_num, HO, hbN⟩
          case measure => simp [intOf]; omega
      · have hpn : touchesF fs x k = false := by simpa using hpp
        have HN : Hid (idsTo (touchesF fs x) (k + 1) = idsTo (touchesF fs x) k) := idsTo_no hpn
        rw [hp.out] at hpn
        obtain ⟨g1, g2⟩ := Bool.or_eq_false_iff.1 hpn
        have HO := hoF
        rw [← HN.out] at HO
        clear hp hfk hoF hoG hbG hpn hpp
        go_wp2
        exact ⟨⟨k + 1, by omega, by go_num, HO, hbF⟩, by simp [intOf]; omega⟩
    · have hkm : k = m := by omega
      rw [hkm] at hown
      clear hlt
      go_wp2
      go_ret
      exact ⟨_, rfl, hown.out.base (by omega), hb0.trans (hb.mono (by omega))⟩
end Go.Proofs.Ytjklphlgmlomjaa
/- slices.IndexFunc and ContainsFunc over numbers, walked, at a closure that answers p. Conditions: none. -/
namespace Go.Proofs.Ytjklphlgmlomjaa
open Go.RowKit
/-- None of the first k passes p. -/
def noneP {α : Type} (p : α → Bool) (l : List α) (k : Nat) : Prop := ∀ j x, j < k → l[j]? = some x → p x = false
theorem noneP_zero {α : Type} (p : α → Bool) (l : List α) : noneP p l 0 := fun j _ hj => by omega
theorem noneP_succ {α : Type} {p : α → Bool} {l : List α} {k : Nat} {x : α} (h : noneP p l k) (hx : l[k]? = some x) (hp : p x = false) : noneP p l (k + 1) := by
  intro j y hj hy
  rcases Nat.lt_succ_iff_lt_or_eq.1 hj with hlt | rfl
  · exact h j y hlt hy
  · rw [hx] at hy; injection hy with hy; subst hy; exact hp
/-- The index of the first element that passes p, or -1. -/
def findPF {α : Type} (p : α → Bool) : List α → Nat → Int
  | [], _ => -1
  | y :: l, k => if p y then (k : Int) else findPF p l (k + 1)
def findP {α : Type} (p : α → Bool) (l : List α) : Int := findPF p l 0
theorem findPF_at {α : Type} {p : α → Bool} : ∀ {l : List α} {k0 k : Nat} {x : α}, l[k]? = some x → p x = true → noneP p l k → findPF p l k0 = ((k0 + k : Nat) : Int) := by
  intro l
  induction l with
  | nil => intro k0 k x h; simp at h
  | cons y l ih =>
    intro k0 k x h hp hn
    unfold findPF
    cases k with
    | zero => simp at h; rw [h, if_pos hp]; rfl
    | succ k =>
      rw [if_neg (by rw [hn 0 y (Nat.succ_pos _) (by simp)]; decide)]
      rw [ih (k := k) (by simpa using h) hp (fun j z hj hz => hn (j + 1) z (by omega) (by simpa using hz))]
      congr 1; omega
theorem findP_at {α : Type} {p : α → Bool} {l : List α} {k : Nat} {x : α} (h : noneP p l k) (hx : l[k]? = some x) (hp : p x = true) : findP p l = k := by
  have := findPF_at (k0 := 0) hx hp h
  simpa [findP] using this
theorem findPF_neg {α : Type} {p : α → Bool} : ∀ {l : List α} {k0 : Nat}, (0 ≤ findPF p l k0 ↔ l.any p = true) ∧ -1 ≤ findPF p l k0 := by
  intro l
  induction l with
  | nil => intro k0; simp [findPF]
  | cons y l ih =>
    intro k0
    unfold findPF
    by_cases h : p y = true
    · rw [if_pos h]; simp [h]
    · rw [if_neg h]; simp only [List.any_cons]; rw [show p y = false by simpa using h]; simpa using ih
theorem findP_ge {α : Type} {p : α → Bool} {l : List α} : 0 ≤ findP p l ↔ l.any p = true := findPF_neg.1
theorem findP_none {α : Type} {p : α → Bool} {l : List α} {n : Nat} (hl : l.length = n) (h : noneP p l n) : findP p l = -1 := by
  have h1 := findPF_neg (p := p) (l := l) (k0 := 0)
  have h2 : ¬ (l.any p = true) := by
    intro ha
    obtain ⟨x, hx, hp⟩ := List.any_eq_true.1 ha
    obtain ⟨i, hi, e⟩ := List.mem_iff_getElem.1 hx
    have := h i x (by omega) (by rw [List.getElem?_eq_getElem hi, e])
    rw [this] at hp; cases hp
  unfold findP
  have := h1.2
  have h3 : ¬ (0 ≤ findPF p l 0) := fun h => h2 (h1.1.1 h)
  omega
section
variable {B n c : Nat} {A : Option Addr} {xs : List Int} {F : FuncId} {cap : Array Value}
set_option maxRecDepth 100000 in
theorem indexFuncI_any (p : Int → Bool) (w : World) (hA : Sees elInt w B A n xs) (hn : n ≤ 1048576)
    (hcall : ∀ args wr, (callFunc F args).run Try.prog wr = .ok (.enter F args) wr)
    (hF : ∀ x w', x ∈ xs → Cls w w' → Calls Try.prog F (#[.int .i64 x] ++ cap) w' fun e w2 => e = .returned (.bool (p x)) ∧ Below w'.heap.size w' w2) :
    Calls Try.prog 144 #[.slice A n c, .func (.func F) #[] cap] w fun e w' => e = .returned (.int .i64 (findP p xs)) ∧ Below w.heap.size w w' := by
  have HF := hid hF
  clear hF
  go_enter Try.func144, Try.ntmps144
  go_wp2
  go_loopw [8] (fun i wr => ∃ k : Nat, k ≤ n ∧ i = .int .i64 k ∧ Hid (noneP p xs k) ∧ Below w.heap.size w wr) (fun i _ => n - (intOf i).toNat)
  case atStart => exact ⟨0, Nat.zero_le _, rfl, noneP_zero _ _, Below.refl _ _⟩
  case round =>
    obtain ⟨k, hk, rfl, hno, hb⟩ := hrel
    by_cases hlt : k < n
    · obtain ⟨b, o, rfl, _, hc⟩ := hA.at_ hlt
      obtain ⟨x, hxk⟩ : ∃ x, xs[k]? = some x := ⟨xs[k]'(by rw [hA.len]; exact hlt), List.getElem?_eq_getElem _⟩
      have hcx := bl_cell hb (hc k x hxk 0 _ rfl)
      simp only [elInt, Nat.mul_one, Nat.add_zero] at hcx
      have HC := hid (HF.out x wr (List.mem_of_getElem? hxk) hb)
      clear hc
      go_wp2_with fail
      refine HC.out.mono ?_
      rintro e w' ⟨rfl, hb2⟩
      have hbb : Below w.heap.size w w' := bl_then hb hb2
      clear HC hcx hb hb2
      by_cases hp : p x = true
      · have HR := hid (findP_at hno.out hxk hp)
        clear hno hxk
        rw [hp]
        go_wp2_with fail
        go_ret
        exact ⟨by rw [HR.out]; rfl, hbb⟩
      · have hp' : p x = false := by simpa using hp
        have HR := hid (noneP_succ hno.out hxk hp')
        clear hno hxk
        rw [hp']
        go_wp2_with fail
        exact ⟨⟨k + 1, by omega, by go_num, HR, hbb⟩, by simp [intOf]; omega⟩
    · have HN := hid (findP_none (p := p) hA.len (by obtain rfl : k = n := (by omega); exact hno.out))
      clear hno
      go_wp2
      go_ret
      exact ⟨by rw [HN.out]; rfl, hb⟩
set_option maxRecDepth 100000 in
theorem containsFuncI_any (p : Int → Bool) (w : World) (hA : Sees elInt w B A n xs) (hn : n ≤ 1048576)
    (hcall : ∀ args wr, (callFunc F args).run Try.prog wr = .ok (.enter F args) wr)
    (hF : ∀ x w', x ∈ xs → Cls w w' → Calls Try.prog F (#[.int .i64 x] ++ cap) w' fun e w2 => e = .returned (.bool (p x)) ∧ Below w'.heap.size w' w2) :
    Calls Try.prog 127 #[.slice A n c, .func (.func F) #[] cap] w fun e w' => e = .returned (.bool (xs.any p)) ∧ Below w.heap.size w w' := by
  have HC := hid (indexFuncI_any (c := c) p w hA hn hcall hF)
  have H : Hid (decide (0 ≤ findP p xs) = xs.any p) := by
    unfold Hid
    cases g : xs.any p
    · exact decide_eq_false (fun h => by have := findP_ge.1 h; rw [g] at this; cases this)
    · exact decide_eq_true (findP_ge.2 g)
  clear hcall hF hA
  go_enter Try.func127, Try.ntmps127
  go_wp2_with fail
  refine HC.out.mono ?_
  rintro e w' ⟨rfl, hb⟩
  go_wp2_with fail
  go_ret
  exact ⟨by rw [← H.out]; rfl, hb⟩
end
end Go.Proofs.Ytjklphlgmlomjaa
/- impl.isNode walked, at any world. Conditions: none. -/
namespace Go.Proofs.Ytjklphlgmlomjaa
open Go.RowKit
variable {n c m d : Nat} {A A' : Option Addr} {xs : List ByteArray} {fs : List Fib}
set_option maxRecDepth 100000 in
theorem isNodeC (x : Int) (w : World) (g : Nat) (a a' : Value) (hn : a = .slice A n c) (hg : Blk w g 35 #[a, a']) (hle : n ≤ 1048576) :
    Calls Try.prog 128 #[.int .i64 x, .pointer (some ⟨g, 0, none⟩)] w fun e w' => e = .returned (.bool (!inB 0 ((n : Int) - 1) x)) ∧ Below w.heap.size w w' := by
  subst hn
  have q0 := hg.cell 0
  simp at q0
  go_enter Try.func128, Try.ntmps128
  go_wp2_with fail
  refine (within_any _ _ _ _).mono ?_
  rintro e w2 ⟨rfl, rfl⟩
  go_wp2_with fail
  go_ret
  exact ⟨rfl, Below.refl _ _⟩
/-- Every number of the list is a node's. -/
def nodesB (n : Nat) (vs : List Int) : Bool := !(vs.any fun x => !inB 0 ((n : Int) - 1) x)
set_option maxRecDepth 100000 in
theorem isNode_any {B k c' : Nat} {V : Option Addr} {vs : List Int} (w : World) (h : NetIs w A n c A' m d xs fs) (hv : Sees elInt w B V k vs) (hk : k ≤ 1048576) :
    Calls Try.prog 89 #[.agg #[.slice A n c, .slice A' m d], .slice V k c'] w fun e w' => e = .returned (.bool (goodB xs fs && nodesB n vs)) ∧ Below w.heap.size w w' := by
  have hb0 := bl_alloc (Below.refl w.heap.size w) (.cells #[.slice A n c, .slice A' m d] 35)
  have hx0 : Blk (w.alloc (.cells #[.slice A n c, .slice A' m d] 35)) w.heap.size 35 #[.slice A n c, .slice A' m d] := Blk.new _ _ _
  have h0 := h.grow hb0
  have hle := h.nle
  have hv0 := hv.grow hb0
  cases g : goodB xs fs
  · clear hv0
    go_enter Try.func89, Try.ntmps89
    go_wp2_with fail
    refine (validN _ h0).mono ?_
    rintro e w2 ⟨rfl, hb2⟩
    rw [g]
    go_wp2_with fail
    go_ret
    exact ⟨rfl, bl_then hb0 hb2⟩
  · go_enter Try.func89, Try.ntmps89
    go_wp2_with fail
    refine (validN _ h0).mono ?_
    rintro e w2 ⟨rfl, hb2⟩
    rw [g]
    have hx2 := hx0.below hb2 hx0.lt
    have hv2 := hv0.grow hb2
    clear hx0 hv0 hv
    go_wp2_with fail
    refine (containsFuncI_any (cap := #[.pointer (some ⟨w.heap.size, 0, none⟩)]) (fun x => !inB 0 ((n : Int) - 1) x) _ hv2 hk (fun _ _ => by rfl) (fun x w' _ hw' => isNodeC x w' w.heap.size _ _ rfl (hx2.below hw' hx2.lt) hle)).mono ?_
    rintro e w3 ⟨rfl, hb3⟩
    go_wp2_with fail
    go_ret
    exact ⟨rfl, bl_then (bl_then hb0 hb2) hb3⟩
end Go.Proofs.Ytjklphlgmlomjaa
/- impl.FibersAt and spec.FibersAt walked. Conditions: none. -/
namespace Go.Proofs.Ytjklphlgmlomjaa
open Go.RowKit
variable {n c m d : Nat} {A A' : Option Addr} {xs : List ByteArray} {fs : List Fib}
/-- What the reference asks of fiber j. -/
def endsF (fs : List Fib) (v : Int) (j : Nat) : Bool := decide (0 ≤ otherF (fs.getD j ⟨0, 0, 0, 0⟩) v)
theorem ends_eq {v : Int} (hg : goodB xs fs = true) {j : Nat} (hj : j < fs.length) : endsF fs v j = touchesF fs v j := by
  obtain ⟨f, hf⟩ := get_of (k := j) rfl hj
  have hb := goodB_fibB hg (List.mem_of_getElem? hf)
  unfold endsF touchesF
  rw [getD_of hf]
  unfold fibB at hb
  simp at hb
  unfold otherF
  by_cases h1 : v = f.a
  · rw [if_pos h1]; simp [h1]; omega
  · rw [if_neg h1]
    by_cases h2 : v = f.b
    · rw [if_pos h2]; simp [h2]; omega
    · rw [if_neg h2]
      have e1 : (f.a == v) = false := by simp; omega
      have e2 : (f.b == v) = false := by simp; omega
      rw [e1, e2]; rfl
def faB (xs : List ByteArray) (fs : List Fib) (v : Int) : Bool := goodB xs fs && inB 0 ((xs.length : Int) - 1) v
def faI (xs : List ByteArray) (fs : List Fib) (v : Int) : List Int := if faB xs fs v then idsTo (touchesF fs v) fs.length else []
theorem faI_ends {v : Int} (hg : goodB xs fs = true) (h : faB xs fs v = true) : faI xs fs v = idsTo (endsF fs v) fs.length := by
  unfold faI; rw [if_pos h]; exact idsTo_congr (fun j hj => (ends_eq hg hj).symm)
theorem faI_len (v : Int) : (faI xs fs v).length ≤ fs.length := by unfold faI; split; exact idsTo_len _ _; exact Nat.zero_le _
theorem nodesB_one (x : Int) : nodesB n [x] = inB 0 ((n : Int) - 1) x := by simp [nodesB]
theorem sees_one (w : World) (x : Int) (t : TypeId) : Sees elInt (w.alloc (.cells #[.int .i64 x] t)) (w.heap.size + 1) (some ⟨w.heap.size, 0, none⟩) 1 [x] := by
  refine ⟨rfl, .inr ⟨_, _, rfl, Nat.lt_succ_self _, fun k y hy j u hu => ?_⟩⟩
  match k, hy with
  | 0, hy =>
    simp at hy; subst hy
    match j, hu with
    | 0, hu => simp [elInt] at hu; subst hu; simp [elInt]
set_option maxHeartbeats 1000000 in
set_option maxRecDepth 100000 in
theorem specFibersAt (x : Int) (w : World) (h : NetIs w A n c A' m d xs fs) :
    Calls Try.prog 80 #[.agg #[.slice A n c, .slice A' m d], .int .i64 x] w fun e w' => ∃ v, e = .returned (.tuple #[v, .bool (faB xs fs x)]) ∧ Owns elInt w' w.heap.size 3 v (faI xs fs x) ∧ Below w.heap.size w w' := by
  obtain ⟨i0, hi, hz0, hz1, hz2⟩ := info_parts int_info
  have hb0 := bl_alloc (Below.refl w.heap.size w) (.cells #[.slice A n c, .slice A' m d] 35)
  have hx0 : Blk (w.alloc (.cells #[.slice A n c, .slice A' m d] 35)) w.heap.size 35 #[.slice A n c, .slice A' m d] := Blk.new _ _ _
  have h0 := h.grow hb0
  have hlx := h.xlen
  have hlf := h.flen
  have hm := h.mle
  have hn := h.nle
  have hbe : Below (w.alloc (.cells #[.slice A n c, .slice A' m d] 35)).heap.size (w.alloc (.cells #[.slice A n c, .slice A' m d] 35)) ((w.alloc (.cells #[.slice A n c, .slice A' m d] 35)).alloc (.cells #[] 3)) := bl_alloc (Below.refl _ _) _
  have hoe : Hid (Owns elInt ((w.alloc (.cells #[.slice A n c, .slice A' m d] 35)).alloc (.cells #[] 3)) (w.heap.size + 1) 3 (.slice (some ⟨w.heap.size + 1, 0, none⟩) 0 0) []) :=
    Owns.of_blk (n := 0) (cap := 0) (cur := #[]) (by have := Blk.new (w.alloc (.cells #[.slice A n c, .slice A' m d] 35)) 3 #[]; simpa using this) (Nat.le_refl _) rfl (Nat.le_refl _) rfl (by decide) (Filled.zero _ _ _)
  have hsz0 : (w.alloc (.cells #[.slice A n c, .slice A' m d] 35)).heap.size = w.heap.size + 1 := by simp
  have h1 := h0.grow hbe
  cases g : goodB xs fs
  · have H : Hid (faB xs fs x = false ∧ faI xs fs x = []) := by unfold Hid faI faB; rw [g]; exact ⟨rfl, rfl⟩
    clear hlx hlf
    go_enter Try.func80, Try.ntmps80
    go_wp2_with fail
    refine (goodN _ h1).mono ?_
    rintro e w2 ⟨rfl, hb2⟩
    rw [g]
    have hoe2 := hid (hoe.out.below hb2)
    clear hoe
    go_wp2_with fail
    go_ret2
    exact ⟨_, by rw [H.out.1]; rfl, by rw [H.out.2]; exact hoe2.out.base (by omega), bl_then (bl_alloc hb0 _) hb2⟩
  · cases g2 : inB 0 ((n : Int) - 1) x
    · have H : Hid (faB xs fs x = false ∧ faI xs fs x = []) := by unfold Hid faI faB; rw [g, hlx, g2]; exact ⟨rfl, rfl⟩
      clear hlx hlf
      go_enter Try.func80, Try.ntmps80
      go_wp2_with fail
      refine (goodN _ h1).mono ?_
      rintro e w2 ⟨rfl, hb2⟩
      rw [g]
      have hoe2 := hid (hoe.out.below hb2)
      have q0 := ((hx0.below hbe hx0.lt).below hb2 (by simp; omega)).cell 0
      simp at q0
      clear hoe
      go_wp2_with fail
      refine (l1In_any _ _ _ _).mono ?_
      rintro e w3 ⟨rfl, rfl⟩
      rw [g2]
      go_wp2_with fail
      go_ret2
      exact ⟨_, by rw [H.out.1]; rfl, by rw [H.out.2]; exact hoe2.out.base (by omega), bl_then (bl_alloc hb0 _) hb2⟩
    · have H : Hid (faB xs fs x = true ∧ faI xs fs x = idsTo (endsF fs x) m) := by
        have hh : faB xs fs x = true := by unfold faB; rw [g, hlx, g2]; rfl
        exact ⟨hh, by rw [faI_ends g hh, hlf]⟩
      clear hlx
      go_enter Try.func80, Try.ntmps80
      go_wp2_with fail
      refine (goodN _ h1).mono ?_
      rintro e w2 ⟨rfl, hb2⟩
      rw [g]
      have hoe2 : Hid (Owns elInt w2 (w.heap.size + 1) 3 (.slice (some ⟨w.heap.size + 1, 0, none⟩) 0 0) (idsTo (endsF fs x) 0)) := hid (hoe.out.below hb2)
      have q0 := ((hx0.below hbe hx0.lt).below hb2 (by simp; omega)).cell 0
      simp at q0
      clear hoe
      go_wp2_with fail
      refine (l1In_any _ _ _ _).mono ?_
      rintro e w3 ⟨rfl, rfl⟩
      rw [g2]
      have hbw := hbe.trans (hb2.mono (by simp))
      clear hbe hb2 q0 h1
      go_wp2_with fail
      generalize hw0 : w.alloc (.cells #[.slice A n c, .slice A' m d] 35) = w0 at *
      go_loopw [6, 7] (fun v i wr => ∃ k : Nat, k ≤ m ∧ i = .int .i64 k ∧ Hid (Owns elInt wr (w.heap.size + 1) 3 v (idsTo (endsF fs x) k)) ∧ Below w0.heap.size w0 wr) (fun _ i _ => m - (intOf i).toNat)
      case atStart => exact ⟨0, Nat.zero_le _, rfl, hoe2, hbw⟩
      case round =>
        clear hbw hoe2
        obtain ⟨k, hk, rfl, hown, hb⟩ := hrel
        have q0 := (hx0.below hb hx0.lt).cell 0
        have q1 := (hx0.below hb hx0.lt).cell 1
        simp at q0 q1
        by_cases hlt : k < m
        · obtain ⟨f, hfk⟩ := get_of (k := k) hlf hlt
          have hp : Hid (endsF fs x k = decide (0 ≤ otherF f x)) := by unfold Hid endsF; rw [getD_of hfk]
          have hwz := hb.size
          have HC := hid (l2Other_any (k : Int) x wr (h0.grow hb) (f := f) (by omega) (by omega) (by simpa using hfk))
          have hll := idsTo_len (endsF fs x) k
          clear hfk
          go_wp2_with fail
          refine HC.out.mono ?_
          rintro e w3 ⟨rfl, hb3⟩
          clear HC
          have hb4 := bl_then hb hb3
          have hoF : Hid (Owns elInt _ _ _ _ _) := hown.out.below hb3
          clear hown q0 q1
          have hx3 := hb4.size
          cases g1 : decide (0 ≤ otherF f x)
          · have HN : Hid (idsTo (endsF fs x) (k + 1) = idsTo (endsF fs x) k) := idsTo_no (hp.out.trans g1)
            have HO := hoF
            rw [← HN.out] at HO
            clear hp hoF
            go_wp2
            exact ⟨⟨k + 1, by omega, by go_num, HO, hb4⟩, by simp [intOf]; omega⟩
          · have HN : Hid (idsTo (endsF fs x) (k + 1) = idsTo (endsF fs x) k ++ [(k : Int)]) := idsTo_yes (hp.out.trans g1)
            have hbG := bl_alloc hb4 (.cells #[.int .i64 k] 3)
            have hoG : Hid (Owns elInt _ _ _ _ _) := hoF.out.below (bl_alloc (Below.refl _ _) (.cells #[.int .i64 k] 3))
            clear hp hoF
            go_wp2_with (first
            | (at_builtin; refine wpList_append_own _ rfl _ _ 26 rfl (w.heap.size + 1) 3 i0 (.int .i64 0) 1 8 Try.underlying26 hi hz0 hz1 hz2 rfl (by decide) _ (idsTo (endsF fs x) k).length ((idsTo (endsF fs x) k).flatMap elInt.cells) rfl hoG.out ⟨_, 0, none⟩ 1 1 [.int .i64 k] rfl rfl (one_new _ _ _ (by simp)) (fun u hu => by simp at hu; subst hu; rfl) (by unfold maxLen; omega) (by omega) (by simp; omega) ?_)
            | go_in)
            intro v' w1 hown' hgrow _
            have HO : Hid (Owns elInt w1 (w.heap.size + 1) 3 v' (idsTo (endsF fs x) (k + 1))) := by unfold Hid; rw [HN.out]; exact Owns.appended hown'
            have hbN := bl_grown hbG hgrow (fun g hg => by have := (hoG.out.lies g hg).1; omega)
            clear hown' hgrow hoG hbG
            go_wp2
            go_roundw
            case rel => exact ⟨k + 1, by omega, by go_num, HO, hbN⟩
            case measure => simp [intOf]; omega
        · have hkm : k = m := by omega
          rw [hkm] at hown
          clear hlt
          go_wp2
          go_ret2
          exact ⟨_, by rw [H.out.1]; rfl, by rw [H.out.2]; exact hown.out.base (by omega), hb0.trans (hb.mono (by omega))⟩
end Go.Proofs.Ytjklphlgmlomjaa
/- Bridges, cut nodes, critical groups, in plain Lean. Conditions: none. -/
namespace Go.Proofs.Ytjklphlgmlomjaa
open Go.RowKit
theorem Owns.splitg {α : Type} {E : El α} {w : World} {base n : Nat} {e : TypeId} {v : Value} {xs : List α} (h : Owns E w base e v xs) (hl : xs.length = n) (hn : 0 < n) : ∃ g c, v = .slice (some ⟨g, 0, none⟩) n c := by
  subst hl
  rcases Owns.cases h with ⟨_, h0⟩ | ⟨g, c, cur, hv, _⟩
  · rw [h0] at hn; simp at hn
  · exact ⟨g, c, hv⟩
section
variable {n : Nat} {xs : List ByteArray} {fs : List Fib} {l : List Int} {X Y : List Int} {s : Int}
/-- Fiber i is a bridge. -/
def brF (fs : List Fib) (n i : Nat) : Bool := !(valL (compL (goneF [(i : Int)]) fs n) (fibD fs i).a.toNat == valL (compL (goneF [(i : Int)]) fs n) (fibD fs i).b.toNat)
def brL (xs : List ByteArray) (fs : List Fib) : List Int := if goodB xs fs then idsTo (brF fs xs.length) fs.length else []
theorem brL_len : (brL xs fs).length ≤ 14 := by
  unfold brL
  cases g : goodB xs fs
  · simp
  · have h := goodB_bd g
    have h2 := idsTo_len (brF fs xs.length) fs.length
    simp; omega
theorem bit_one (i : Nat) : compL (fun j => (2 ^ i).testBit j) fs n = compL (goneF [(i : Int)]) fs n := compL_congr fun j _ => by
  rw [Nat.testBit_two_pow]
  unfold goneF
  rw [Bool.eq_iff_iff, hasB_iff, decide_eq_true_eq, List.mem_singleton]
  omega
/-- Two nodes that are told apart by Y and not by X, none of them s. -/
def sepP (X Y : List Int) (s : Int) (a b : Nat) : Bool := (!((a : Int) == s) && !((b : Int) == s)) && ((valL X a == valL X b) && !(valL Y a == valL Y b))
theorem sepP_symm {a b : Nat} : sepP X Y s a b = sepP X Y s b a := by
  unfold sepP
  rw [Bool.and_comm (!((a : Int) == s)), show (valL X a == valL X b) = (valL X b == valL X a) from Bool.beq_comm, show (valL Y a == valL Y b) = (valL Y b == valL Y a) from Bool.beq_comm]
def sepB (n : Nat) (X Y : List Int) (s : Int) : Bool := !(allB (fun a => allB (fun b => !sepP X Y s a b) a) n)
def splB (n : Nat) (X Y : List Int) (s : Int) : Bool := !(allB (fun a => allB (fun i => !sepP X Y s a (a + 1 + i)) (n - (a + 1))) n)
theorem splB_eq : splB n X Y s = sepB n X Y s := by
  unfold splB sepB
  congr 1
  rw [Bool.eq_iff_iff, allB_iff, allB_iff]
  constructor
  · intro h a ha
    rw [allB_iff]
    intro b hb
    have h1 : (!sepP X Y s b (b + 1 + (a - (b + 1)))) = true := allB_iff.1 (h b (by omega)) (a - (b + 1)) (by omega)
    rw [show b + 1 + (a - (b + 1)) = a by omega] at h1
    show (!sepP X Y s a b) = true
    rw [sepP_symm]; exact h1
  · intro h a ha
    rw [allB_iff]
    intro i hi
    have h1 : (!sepP X Y s (a + 1 + i) a) = true := allB_iff.1 (h (a + 1 + i) (by omega)) a (by omega)
    show (!sepP X Y s a (a + 1 + i)) = true
    rw [sepP_symm]; exact h1
theorem sepB_yes {a b : Nat} (ha : a < n) (hb : b < a) (h : sepP X Y s a b = true) : sepB n X Y s = true := by
  have h1 : allB (fun b => !sepP X Y s a b) a = false := allB_no hb (by show (!sepP X Y s a b) = false; rw [h]; rfl)
  unfold sepB
  rw [allB_no (p := fun a => allB (fun b => !sepP X Y s a b) a) ha h1]; rfl
theorem splB_yes {a b : Nat} (hb : b < n) (ha : a < b) (h : sepP X Y s a b = true) : splB n X Y s = true := by
  rw [splB_eq]; exact sepB_yes hb ha (by rw [sepP_symm]; exact h)
/-- A node whose loss parts others. -/
def cnF (fs : List Fib) (n v : Nat) : Bool := sepB n (compL (goneF []) fs n) (compL (goneF (idsTo (touchesF fs v) fs.length)) fs n) v
def cnL (xs : List ByteArray) (fs : List Fib) : List Int := if goodB xs fs then idsTo (cnF fs xs.length) xs.length else []
theorem cnL_len : (cnL xs fs).length ≤ 8 := by
  unfold cnL
  cases g : goodB xs fs
  · simp
  · have h := goodB_bd g
    have h2 := idsTo_len (cnF fs xs.length) xs.length
    simp; omega
/-- A group whose loss parts others. -/
def cgF (fs : List Fib) (n i : Nat) : Bool := sepB n (compL (goneF []) fs n) (compL (goneF ((groupsL fs).getD i [])) fs n) (-1)
def cgL (xs : List ByteArray) (fs : List Fib) : List Int := if goodB xs fs then idsTo (cgF fs xs.length) (groupsL fs).length else []
end
end Go.Proofs.Ytjklphlgmlomjaa
/- The greatest distance, in plain Lean, in two spellings. Conditions: none. -/
namespace Go.Proofs.Ytjklphlgmlomjaa
/-- What is kept: the nodes and the distance. -/
structure Dia where
  x : Int
  y : Int
  m : Int
def diaStep (a b : Nat) (d : Int) (s : Dia) : Dia := if a < b ∧ s.m < d then ⟨a, b, d⟩ else s
def diaRow (D : List Int) (a : Nat) (s : Dia) : Nat → Dia
  | 0 => s
  | b + 1 => diaStep a b (valL D b) (diaRow D a s b)
def diaTo (F : Nat → List Int) (n : Nat) (s : Dia) : Nat → Dia
  | 0 => s
  | a + 1 => diaRow (F a) a (diaTo F n s a) n
/-- Is every node reached from every one? -/
def allD (F : Nat → List Int) (n : Nat) : Bool := allB (fun a => allB (fun b => decide (0 ≤ valL (F a) b)) n) n
section
variable {F : Nat → List Int} {n : Nat}
theorem diaRow_two {D : List Int} {s t : Dia} (k : Nat) (hs : s.m = 0) (ht : t.m = -1) (h1 : 1 ≤ valL D 1) : diaRow D 0 s (k + 2) = diaRow D 0 t (k + 2) := by
  induction k with
  | zero =>
    show diaStep 0 1 (valL D 1) (diaStep 0 0 (valL D 0) s) = diaStep 0 1 (valL D 1) (diaStep 0 0 (valL D 0) t)
    have e1 : diaStep 0 0 (valL D 0) s = s := if_neg (by omega)
    have e2 : diaStep 0 0 (valL D 0) t = t := if_neg (by omega)
    rw [e1, e2]
    unfold diaStep
    rw [if_pos (by omega), if_pos (by omega)]
  | succ k ih =>
    show diaStep 0 (k + 2) _ (diaRow D 0 s (k + 2)) = diaStep 0 (k + 2) _ (diaRow D 0 t (k + 2))
    rw [ih]
theorem diaTo_two (hn : 2 ≤ n) (h1 : 1 ≤ valL (F 0) 1) (k : Nat) : diaTo F n ⟨0, 0, 0⟩ (k + 1) = diaTo F n ⟨0, 0, -1⟩ (k + 1) := by
  induction k with
  | zero =>
    show diaRow (F 0) 0 ⟨0, 0, 0⟩ n = diaRow (F 0) 0 ⟨0, 0, -1⟩ n
    obtain ⟨j, rfl⟩ : ∃ j, n = j + 2 := ⟨n - 2, by omega⟩
    exact diaRow_two j rfl rfl h1
  | succ k ih =>
    show diaRow (F (k + 1)) (k + 1) (diaTo F n ⟨0, 0, 0⟩ (k + 1)) n = diaRow (F (k + 1)) (k + 1) (diaTo F n ⟨0, 0, -1⟩ (k + 1)) n
    rw [ih]
theorem allD_no {a b : Nat} (ha : a < n) (hb : b < n) (h : valL (F a) b < 0) : allD F n = false := by
  unfold allD
  exact allB_no ha (allB_no hb (by simp; omega))
theorem allD_yes (h : allTo (fun a => allB (fun b => decide (0 ≤ valL (F a) b)) n) n) : allD F n = true := allB_iff.2 h
end
section
variable {xs : List ByteArray} {fs : List Fib}
/-- The distances from a node. -/
def dsF (fs : List Fib) (n a : Nat) : List Int := distL (goneF []) fs n a
def diaB (xs : List ByteArray) (fs : List Fib) : Bool := goodB xs fs && allD (dsF fs xs.length) xs.length
def diaV (xs : List ByteArray) (fs : List Fib) : Dia := if diaB xs fs then diaTo (dsF fs xs.length) xs.length ⟨0, 0, 0⟩ xs.length else ⟨0, 0, 0⟩
end
end Go.Proofs.Ytjklphlgmlomjaa
/-
  DERIVED: THE SHELF's CONTRACTS AT THIS DUMP, IN PLAIN WORDS (tools/lay-plain.mjs out of 'TryShelf.lean', which tools/lay-shelf.mjs wrote): THE SAME DECLARATIONS UNDER THE SAME NAMES: 'import', 'namespace', 'open', 'def', 'theorem' AND NOTHING ELSE: no command of the shelf's: FOR A HAND-IN. Each laying: the table of numbers ('.._ren') and one theorem, a field a fact of the dump's own or the kernel's comparison; each contract: ONE APPLICATION.
-/
namespace Go.Proofs
open Go.Shelf
def Try.lays189_ren : Go.Shelf.Ren := ⟨fun | 189 => 139 | 125 => 150 | 257 => 149 | 128 => 165 | 129 => 166 | 294 => 156 | 295 => 157 | 296 => 158 | 297 => 159 | 298 => 160 | 299 => 161 | 216 => 162 | 300 => 163 | 301 => 164 | 328 => 167 | 329 => 168 | 330 => 169 | 331 => 170 | 332 => 171 | 215 => 146 | 343 => 172 | n => n, fun | 28 => 26 | 3 => 3 | 46 => 87 | 0 => 0 | 51 => 134 | 53 => 137 | 4 => 4 | 183 => 144 | 182 => 143 | 131 => 58 | 5 => 5 | 9 => 9 | 218 => 152 | 222 => 156 | 228 => 158 | 229 => 159 | n => n, fun | n => n⟩
theorem Try.lays189 : Go.Proofs.Lays.n189 Try.prog Try.lays189_ren := {
  mixed := by kernel_rfl
  f125 := Try.func150.trans (congrArg some (by kernel_rfl))
  f128 := Try.func165.trans (congrArg some (by kernel_rfl))
  f129 := Try.func166.trans (congrArg some (by kernel_rfl))
  f189 := Try.func139.trans (congrArg some (by kernel_rfl))
  f215 := Try.func146.trans (congrArg some (by kernel_rfl))
  f216 := Try.func162.trans (congrArg some (by kernel_rfl))
  f257 := Try.func149.trans (congrArg some (by kernel_rfl))
  f294 := Try.func156.trans (congrArg some (by kernel_rfl))
  f295 := Try.func157.trans (congrArg some (by kernel_rfl))
  f296 := Try.func158.trans (congrArg some (by kernel_rfl))
  f297 := Try.func159.trans (congrArg some (by kernel_rfl))
  f298 := Try.func160.trans (congrArg some (by kernel_rfl))
  f299 := Try.func161.trans (congrArg some (by kernel_rfl))
  f300 := Try.func163.trans (congrArg some (by kernel_rfl))
  f301 := Try.func164.trans (congrArg some (by kernel_rfl))
  f328 := Try.func167.trans (congrArg some (by kernel_rfl))
  f329 := Try.func168.trans (congrArg some (by kernel_rfl))
  f330 := Try.func169.trans (congrArg some (by kernel_rfl))
  f331 := Try.func170.trans (congrArg some (by kernel_rfl))
  f332 := Try.func171.trans (congrArg some (by kernel_rfl))
  f343 := Try.func172.trans (congrArg some (by kernel_rfl))
  t0 := Try.underlying0
  a0 := Try.isAgg0
  z0 := Try.sizeOf0
  v0 := Try.zeroValue0
  t3 := Try.underlying3
  a3 := Try.isAgg3
  z3 := Try.sizeOf3
  v3 := Try.zeroValue3
  t4 := Try.underlying4
  a4 := Try.isAgg4
  z4 := Try.sizeOf4
  v4 := Try.zeroValue4
  t5 := Try.underlying5
  a5 := Try.isAgg5
  z5 := Try.sizeOf5
  v5 := Try.zeroValue5
  t9 := Try.underlying9
  a9 := Try.isAgg9
  z9 := Try.sizeOf9
  v9 := Try.zeroValue9
  t28 := Try.underlying26
  a28 := Try.isAgg26
  z28 := Try.sizeOf26
  v28 := Try.zeroValue26
  t46 := Try.underlying87
  a46 := Try.isAgg87
  z46 := Try.sizeOf87
  v46 := Try.zeroValue87
  t51 := Try.underlying134
  a51 := Try.isAgg134
  z51 := Try.sizeOf134
  v51 := Try.zeroValue134
  t53 := Try.underlying137
  a53 := Try.isAgg137
  z53 := Try.sizeOf137
  v53 := Try.zeroValue137
  t131 := Try.underlying58
  a131 := Try.isAgg58
  z131 := Try.sizeOf58
  v131 := Try.zeroValue58
  t182 := Try.underlying143
  a182 := Try.isAgg143
  z182 := Try.sizeOf143
  v182 := Try.zeroValue143
  t183 := Try.underlying144
  a183 := Try.isAgg144
  z183 := Try.sizeOf144
  v183 := Try.zeroValue144
  t218 := Try.underlying152
  a218 := Try.isAgg152
  z218 := Try.sizeOf152
  v218 := Try.zeroValue152
  t222 := Try.underlying156
  a222 := Try.isAgg156
  z222 := Try.sizeOf156
  v222 := Try.zeroValue156
  t228 := Try.underlying158
  a228 := Try.isAgg158
  z228 := Try.sizeOf158
  v228 := Try.zeroValue158
  t229 := Try.underlying159
  a229 := Try.isAgg159
  z229 := Try.sizeOf159
  v229 := Try.zeroValue159 }
open Go.Sort Go.RowKit in
theorem Try.slices_Sort_int (blk off cap : Nat) (zs : List Int) (w : World) (hH : Holds (Value.int .i64) w blk off zs.toArray) (hblk : blk < w.heap.size) (hsz : zs.length < 4611686018427387904) :
    Calls Try.prog 139 #[.slice (some ⟨blk, off, none⟩) zs.length cap] w fun e w' =>
      e = .returned (.tuple #[]) ∧ ∃ n os, w' = grow (putRow (Value.int .i64) (Sort.ahead w n) blk off (zs.mergeSort fun x y => decide (x ≤ y)).toArray) os := Any.slices_Sort_int Try.lays189 blk off cap zs w hH hblk hsz
def Try.lays264_ren : Go.Shelf.Ren := ⟨fun | 264 => 152 | n => n, fun | 53 => 137 | 46 => 87 | n => n, fun | n => n⟩
theorem Try.lays264 : Go.Proofs.Lays.n264 Try.prog Try.lays264_ren := {
  mixed := by kernel_rfl
  f264 := Try.func152.trans (congrArg some (by kernel_rfl))
  t46 := Try.underlying87
  a46 := Try.isAgg87
  z46 := Try.sizeOf87
  v46 := Try.zeroValue87
  t53 := Try.underlying137
  a53 := Try.isAgg137
  z53 := Try.sizeOf137
  v53 := Try.zeroValue137 }
open Go.RowKit Go.Lib in
theorem Try.bits_Mul64 (x y : Nat) (hx : x < 18446744073709551616) (hy : y < 18446744073709551616) (w : World) :
    Calls Try.prog 152 #[.int .u64 x, .int .u64 y] w fun e w' => e = .returned (.tuple #[.int .u64 ((x * y / 18446744073709551616 : Nat) : Int), .int .u64 ((x * y % 18446744073709551616 : Nat) : Int)]) ∧ w' = w := Any.bits_Mul64 Try.lays264 x y hx hy w
def Try.lays212_ren : Go.Shelf.Ren := ⟨fun | 212 => 145 | 263 => 151 | 264 => 152 | n => n, fun | 46 => 87 | 51 => 134 | 146 => 135 | 53 => 137 | 148 => 138 | n => n, fun | n => n⟩
theorem Try.lays212 : Go.Proofs.Lays.n212 Try.prog Try.lays212_ren := {
  mixed := by kernel_rfl
  f212 := Try.func145.trans (congrArg some (by kernel_rfl))
  f263 := Try.func151.trans (congrArg some (by kernel_rfl))
  f264 := Try.func152.trans (congrArg some (by kernel_rfl))
  t46 := Try.underlying87
  a46 := Try.isAgg87
  z46 := Try.sizeOf87
  v46 := Try.zeroValue87
  t51 := Try.underlying134
  a51 := Try.isAgg134
  z51 := Try.sizeOf134
  v51 := Try.zeroValue134
  t53 := Try.underlying137
  a53 := Try.isAgg137
  z53 := Try.sizeOf137
  v53 := Try.zeroValue137
  t146 := Try.underlying135
  a146 := Try.isAgg135
  z146 := Try.sizeOf135
  v146 := Try.zeroValue135
  t148 := Try.underlying138
  a148 := Try.isAgg138
  z148 := Try.sizeOf138
  v148 := Try.zeroValue138 }
open Go.RowKit Go.Lib in
/-- math/bits.Mul: "Mul returns the full-width product of x and y": on a machine of 64 bits: Mul64's. (LAID: no walk: one application.) -/
theorem Try.bits_Mul (x y : Nat) (hx : x < 18446744073709551616) (hy : y < 18446744073709551616) (w : World) :
    Calls Try.prog 145 #[.int .u64 x, .int .u64 y] w fun e w' => e = .returned (.tuple #[.int .u64 ((x * y / 18446744073709551616 : Nat) : Int), .int .u64 ((x * y % 18446744073709551616 : Nat) : Int)]) ∧ w' = w := Any.bits_Mul Try.lays212 x y hx hy w
def Try.lays108_ren : Go.Shelf.Ren := ⟨fun | 108 => 143 | n => n, fun | 28 => 26 | 3 => 3 | 0 => 0 | 4 => 4 | n => n, fun | n => n⟩
theorem Try.lays108 : Go.Proofs.Lays.n108 Try.prog Try.lays108_ren := {
  mixed := by kernel_rfl
  f108 := Try.func143.trans (congrArg some (by kernel_rfl))
  t0 := Try.underlying0
  a0 := Try.isAgg0
  z0 := Try.sizeOf0
  v0 := Try.zeroValue0
  t3 := Try.underlying3
  a3 := Try.isAgg3
  z3 := Try.sizeOf3
  v3 := Try.zeroValue3
  t4 := Try.underlying4
  a4 := Try.isAgg4
  z4 := Try.sizeOf4
  v4 := Try.zeroValue4
  t28 := Try.underlying26
  a28 := Try.isAgg26
  z28 := Try.sizeOf26
  v28 := Try.zeroValue26 }
open Go.Lib in
/-- slices.Index at []int: "Index returns the index of the first occurrence of v in s, or -1 if not present.": IT RETURNS 'Lib.idxOf (the elements) v'; the world is as it was. 'zs': what the cells behind the slice's address hold (its spare capacity too, if you have it); 'zs.take n': its elements. (LAID: no walk: one application.) -/
theorem Try.slices_Index_int (b off n c : Nat) (zs : List Int) (x : Int) (w : World) (hz : n ≤ zs.length) (hbig : n ≤ 9223372036854775807) (hc : ∀ j, j < zs.length → w.cell? ⟨b, off + j, none⟩ = some (.int .i64 (zs.getD j 0))) :
    Calls Try.prog 143 #[.slice (some ⟨b, off, none⟩) n c, .int .i64 x] w fun e w' => e = .returned (.int .i64 (Lib.idxOf (zs.take n) x)) ∧ w' = w := Any.slices_Index_int Try.lays108 b off n c zs x w hz hbig hc
open Go.Lib in
/-- The same at a slice of length 0, a nil one too: no cell is known, none is asked for. (LAID: no walk: one application.) -/
theorem Try.slices_Index_int_empty (a : Option Addr) (c : Nat) (x : Int) (w : World) :
    Calls Try.prog 143 #[.slice a 0 c, .int .i64 x] w fun e w' => e = .returned (.int .i64 (Lib.idxOf [] x)) ∧ w' = w := Any.slices_Index_int_empty Try.lays108 a c x w
def Try.lays107_ren : Go.Shelf.Ren := ⟨fun | 107 => 123 | 108 => 143 | n => n, fun | 28 => 26 | 3 => 3 | 4 => 4 | 0 => 0 | n => n, fun | n => n⟩
theorem Try.lays107 : Go.Proofs.Lays.n107 Try.prog Try.lays107_ren := {
  mixed := by kernel_rfl
  f107 := Try.func123.trans (congrArg some (by kernel_rfl))
  f108 := Try.func143.trans (congrArg some (by kernel_rfl))
  t0 := Try.underlying0
  a0 := Try.isAgg0
  z0 := Try.sizeOf0
  v0 := Try.zeroValue0
  t3 := Try.underlying3
  a3 := Try.isAgg3
  z3 := Try.sizeOf3
  v3 := Try.zeroValue3
  t4 := Try.underlying4
  a4 := Try.isAgg4
  z4 := Try.sizeOf4
  v4 := Try.zeroValue4
  t28 := Try.underlying26
  a28 := Try.isAgg26
  z28 := Try.sizeOf26
  v28 := Try.zeroValue26 }
open Go.Lib in
/-- slices.Contains at []int: "Contains reports whether v is present in s.": IT RETURNS 'elements.contains v'; the world is as it was. ITS CALLEE slices.Index IS MET BY ITS OWN CONTRACT OFF THE SHELF (lay that first): no loop is walked here. (LAID: no walk: one application.) -/
theorem Try.slices_Contains_int (b off n c : Nat) (zs : List Int) (x : Int) (w : World) (hz : n ≤ zs.length) (hbig : n ≤ 9223372036854775807) (hc : ∀ j, j < zs.length → w.cell? ⟨b, off + j, none⟩ = some (.int .i64 (zs.getD j 0))) :
    Calls Try.prog 123 #[.slice (some ⟨b, off, none⟩) n c, .int .i64 x] w fun e w' => e = .returned (.bool ((zs.take n).contains x)) ∧ w' = w := Any.slices_Contains_int Try.lays107 b off n c zs x w hz hbig hc
open Go.Lib in
/-- The same at a slice of length 0, a nil one too. (LAID: no walk: one application.) -/
theorem Try.slices_Contains_int_empty (a : Option Addr) (c : Nat) (x : Int) (w : World) :
    Calls Try.prog 123 #[.slice a 0 c, .int .i64 x] w fun e w' => e = .returned (.bool false) ∧ w' = w := Any.slices_Contains_int_empty Try.lays107 a c x w
def Try.lays109_ren : Go.Shelf.Ren := ⟨fun | 109 => 142 | n => n, fun | 31 => 22 | 9 => 9 | 3 => 3 | 0 => 0 | 4 => 4 | n => n, fun | n => n⟩
theorem Try.lays109 : Go.Proofs.Lays.n109 Try.prog Try.lays109_ren := {
  mixed := by kernel_rfl
  f109 := Try.func142.trans (congrArg some (by kernel_rfl))
  t0 := Try.underlying0
  a0 := Try.isAgg0
  z0 := Try.sizeOf0
  v0 := Try.zeroValue0
  t3 := Try.underlying3
  a3 := Try.isAgg3
  z3 := Try.sizeOf3
  v3 := Try.zeroValue3
  t4 := Try.underlying4
  a4 := Try.isAgg4
  z4 := Try.sizeOf4
  v4 := Try.zeroValue4
  t9 := Try.underlying9
  a9 := Try.isAgg9
  z9 := Try.sizeOf9
  v9 := Try.zeroValue9
  t31 := Try.underlying22
  a31 := Try.isAgg22
  z31 := Try.sizeOf22
  v31 := Try.zeroValue22 }
open Go.Lib in
/-- slices.Index at []string: "Index returns the index of the first occurrence of v in s, or -1 if not present.": IT RETURNS 'Lib.idxOfS (the elements) v'; the world is as it was. 'zs': what the cells behind the slice's address hold (its spare capacity too, if you have it); 'zs.take n': its elements. (LAID: no walk: one application.) -/
theorem Try.slices_Index_string (b off n c : Nat) (zs : List ByteArray) (x : ByteArray) (w : World) (hz : n ≤ zs.length) (hbig : n ≤ 9223372036854775807) (hc : ∀ j, j < zs.length → w.cell? ⟨b, off + j, none⟩ = some (.string (zs.getD j ByteArray.empty))) :
    Calls Try.prog 142 #[.slice (some ⟨b, off, none⟩) n c, .string x] w fun e w' => e = .returned (.int .i64 (Lib.idxOfS (zs.take n) x)) ∧ w' = w := Any.slices_Index_string Try.lays109 b off n c zs x w hz hbig hc
open Go.Lib in
/-- The same at a slice of length 0, a nil one too: no cell is known, none is asked for. (LAID: no walk: one application.) -/
theorem Try.slices_Index_string_empty (a : Option Addr) (c : Nat) (x : ByteArray) (w : World) :
    Calls Try.prog 142 #[.slice a 0 c, .string x] w fun e w' => e = .returned (.int .i64 (Lib.idxOfS [] x)) ∧ w' = w := Any.slices_Index_string_empty Try.lays109 a c x w
def Try.lays110_ren : Go.Shelf.Ren := ⟨fun | 110 => 122 | 109 => 142 | n => n, fun | 31 => 22 | 9 => 9 | 4 => 4 | 3 => 3 | 0 => 0 | n => n, fun | n => n⟩
theorem Try.lays110 : Go.Proofs.Lays.n110 Try.prog Try.lays110_ren := {
  mixed := by kernel_rfl
  f109 := Try.func142.trans (congrArg some (by kernel_rfl))
  f110 := Try.func122.trans (congrArg some (by kernel_rfl))
  t0 := Try.underlying0
  a0 := Try.isAgg0
  z0 := Try.sizeOf0
  v0 := Try.zeroValue0
  t3 := Try.underlying3
  a3 := Try.isAgg3
  z3 := Try.sizeOf3
  v3 := Try.zeroValue3
  t4 := Try.underlying4
  a4 := Try.isAgg4
  z4 := Try.sizeOf4
  v4 := Try.zeroValue4
  t9 := Try.underlying9
  a9 := Try.isAgg9
  z9 := Try.sizeOf9
  v9 := Try.zeroValue9
  t31 := Try.underlying22
  a31 := Try.isAgg22
  z31 := Try.sizeOf22
  v31 := Try.zeroValue22 }
open Go.Lib in
/-- slices.Contains at []string: "Contains reports whether v is present in s.": IT RETURNS 'Lib.containsS (the elements) v', which is true just where v is among them ('Lib.containsS_iff'); the world is as it was. ITS CALLEE slices.Index IS MET BY ITS OWN CONTRACT OFF THE SHELF (lay that first): no loop is walked here. (LAID: no walk: one application.) -/
theorem Try.slices_Contains_string (b off n c : Nat) (zs : List ByteArray) (x : ByteArray) (w : World) (hz : n ≤ zs.length) (hbig : n ≤ 9223372036854775807) (hc : ∀ j, j < zs.length → w.cell? ⟨b, off + j, none⟩ = some (.string (zs.getD j ByteArray.empty))) :
    Calls Try.prog 122 #[.slice (some ⟨b, off, none⟩) n c, .string x] w fun e w' => e = .returned (.bool (Lib.containsS (zs.take n) x)) ∧ w' = w := Any.slices_Contains_string Try.lays110 b off n c zs x w hz hbig hc
open Go.Lib in
/-- The same at a slice of length 0, a nil one too. (LAID: no walk: one application.) -/
theorem Try.slices_Contains_string_empty (a : Option Addr) (c : Nat) (x : ByteArray) (w : World) :
    Calls Try.prog 122 #[.slice a 0 c, .string x] w fun e w' => e = .returned (.bool false) ∧ w' = w := Any.slices_Contains_string_empty Try.lays110 a c x w
def Try.lays112_ren : Go.Shelf.Ren := ⟨fun | 112 => 71 | n => n, fun | 28 => 26 | 3 => 3 | 4 => 4 | 0 => 0 | n => n, fun | n => n⟩
theorem Try.lays112 : Go.Proofs.Lays.n112 Try.prog Try.lays112_ren := {
  mixed := by kernel_rfl
  f112 := Try.func71.trans (congrArg some (by kernel_rfl))
  t0 := Try.underlying0
  a0 := Try.isAgg0
  z0 := Try.sizeOf0
  v0 := Try.zeroValue0
  t3 := Try.underlying3
  a3 := Try.isAgg3
  z3 := Try.sizeOf3
  v3 := Try.zeroValue3
  t4 := Try.underlying4
  a4 := Try.isAgg4
  z4 := Try.sizeOf4
  v4 := Try.zeroValue4
  t28 := Try.underlying26
  a28 := Try.isAgg26
  z28 := Try.sizeOf26
  v28 := Try.zeroValue26 }
open Go.RowKit Go.Lib Go.Sort in
/-- slices.Reverse at []int, over an array: Go's loop from the two ends inward is walked; it makes 'Sort.reverseLoop 0 (len - 1)', which is 'Array.reverse' (Derived/Lib/SlicesMore.lean). (LAID: no walk: one application.) -/
theorem Try.slices_Reverse_int_arr (blk off cap : Nat) (d : Array Int) (w : World) (hH : Holds encI w blk off d) (hsz : d.size ≤ 9223372036854775807) :
    Calls Try.prog 71 #[.slice (some ⟨blk, off, none⟩) d.size cap] w fun e w' => e = .returned (.tuple #[]) ∧ ∃ n, w' = putRow encI (Sort.ahead w n) blk off d.reverse := Any.slices_Reverse_int_arr Try.lays112 blk off cap d w hH hsz
open Go.RowKit Go.Lib Go.Sort in
/-- slices.Reverse at []int: "Reverse reverses the elements of the slice in place.": THE SLICE's CELLS HOLD 'zs.reverse' BEHIND THE CALL; all else is as it was, but for the count of draws (the exchange 's[i], s[j] = s[j], s[i]' draws its order, once a round). IN THE WORDS OF slices.Sort's CONTRACT: 'Holds': the cells hold zs and none is frozen; 'putRow': the world with those cells holding another array. A slice of length 0 that is not nil is among them ('zs = []'); nil: '.._nil'. (LAID: no walk: one application.) -/
theorem Try.slices_Reverse_int (blk off cap : Nat) (zs : List Int) (w : World) (hH : Holds (Value.int .i64) w blk off zs.toArray) (hsz : zs.length ≤ 9223372036854775807) :
    Calls Try.prog 71 #[.slice (some ⟨blk, off, none⟩) zs.length cap] w fun e w' => e = .returned (.tuple #[]) ∧ ∃ n, w' = putRow (Value.int .i64) (Sort.ahead w n) blk off zs.reverse.toArray := Any.slices_Reverse_int Try.lays112 blk off cap zs w hH hsz
open Go.RowKit Go.Lib Go.Sort in
/-- The same at a slice of length 0, a nil one too: nothing is read, nothing written, nothing drawn. (LAID: no walk: one application.) -/
theorem Try.slices_Reverse_int_empty (a : Option Addr) (cap : Nat) (w : World) :
    Calls Try.prog 71 #[.slice a 0 cap] w fun e w' => e = .returned (.tuple #[]) ∧ w' = w := Any.slices_Reverse_int_empty Try.lays112 a cap w
def Try.laysNm220_ren : Go.Shelf.Ren := ⟨fun | 20 => 140 | n => n, fun | 22 => 26 | 3 => 3 | 4 => 4 | 0 => 0 | n => n, fun | n => n⟩
theorem Try.laysNm220 : Go.Proofs.Lays2.n20 Try.prog Try.laysNm220_ren := {
  mixed := by kernel_rfl
  f20 := Try.func140.trans (congrArg some (by kernel_rfl))
  t0 := Try.underlying0
  a0 := Try.isAgg0
  z0 := Try.sizeOf0
  v0 := Try.zeroValue0
  t3 := Try.underlying3
  a3 := Try.isAgg3
  z3 := Try.sizeOf3
  v3 := Try.zeroValue3
  t4 := Try.underlying4
  a4 := Try.isAgg4
  z4 := Try.sizeOf4
  v4 := Try.zeroValue4
  t22 := Try.underlying26
  a22 := Try.isAgg26
  z22 := Try.sizeOf26
  v22 := Try.zeroValue26
  i3 := by kernel_rfl }
open Go.RowKit Go.Lib Go.Sort in
/-- slices.Compact at []int, over an array: the library's two loops are walked. (LAID: no walk: one application.) -/
theorem Try.slices_Compact_int_arr (blk off cap : Nat) (d : Array Int) (w : World) (hH : Holds encI w blk off d) (hsz : d.size ≤ 9223372036854775807) (hcap : d.size ≤ cap) :
    Calls Try.prog 140 #[.slice (some ⟨blk, off, none⟩) d.size cap] w fun e w' => e = .returned (.slice (some ⟨blk, off, none⟩) (compactUpTo d d.size).length cap) ∧ ∃ q, w' = putRow encI (Sort.ahead w q) blk off (compactUpTo d d.size ++ List.replicate (d.size - (compactUpTo d d.size).length) 0).toArray := Any.slices_Compact_int_arr Try.laysNm220 blk off cap d w hH hsz hcap
open Go.RowKit Go.Lib Go.Sort in
/-- slices.Compact at []int: "Compact replaces consecutive runs of equal elements with a single copy. This is like the uniq command found on Unix. Compact modifies the contents of the slice s and returns the modified slice, which may have a smaller length. Compact zeroes the elements between the new length and the original length. The result preserves the nilness of s.": IT RETURNS THE SLICE CUT TO 'Lib.compact zs'; ITS CELLS HOLD 'Lib.compact zs', THEN ZERO VALUES up to the old length; all else is as it was, but for the count of draws. IN THE WORDS OF slices.Sort's CONTRACT ('Holds', 'putRow'): so the everyday 'slices.Sort(xs); xs = slices.Compact(xs)' goes from the one contract to the other. It asks 'zs.length ≤ cap' (every slice's: the reslicing 's[:k]' looks at it). Length 0, nil: '.._empty'. (LAID: no walk: one application.) -/
theorem Try.slices_Compact_int (blk off cap : Nat) (zs : List Int) (w : World) (hH : Holds (Value.int .i64) w blk off zs.toArray) (hsz : zs.length ≤ 9223372036854775807) (hcap : zs.length ≤ cap) :
    Calls Try.prog 140 #[.slice (some ⟨blk, off, none⟩) zs.length cap] w fun e w' => e = .returned (.slice (some ⟨blk, off, none⟩) (Lib.compact zs).length cap) ∧ ∃ q, w' = putRow (Value.int .i64) (Sort.ahead w q) blk off (Lib.compact zs ++ List.replicate (zs.length - (Lib.compact zs).length) 0).toArray := Any.slices_Compact_int Try.laysNm220 blk off cap zs w hH hsz hcap
open Go.RowKit Go.Lib Go.Sort in
/-- The same at a slice of length 0, a nil one too: it comes back as it is. (LAID: no walk: one application.) -/
theorem Try.slices_Compact_int_empty (a : Option Addr) (cap : Nat) (w : World) :
    Calls Try.prog 140 #[.slice a 0 cap] w fun e w' => e = .returned (.slice a 0 cap) ∧ w' = w := Any.slices_Compact_int_empty Try.laysNm220 a cap w
open Go.RowKit Go.Sort in
/-- .. and plain. (LAID: no walk: one application.) -/
theorem Try.slices_Sort_int_none (p : Option Addr) (cap : Nat) (w : World) :
    Calls Try.prog 139 #[.slice p 0 cap] w fun e w' => e = .returned (.tuple #[]) ∧ w' = w := Any.slices_Sort_int_none Try.lays189 p cap w
end Go.Proofs
/- Distances: slices.Repeat, lengthsFrom, l5Distances, walked. Conditions: as each states. -/
namespace Go.Proofs.Ytjklphlgmlomjaa
open Go.RowKit
/-- All of the first k cells hold x. -/
def allIs (L : List Value) (x : Int) (k : Nat) : Prop := ∀ i, i < k → L[i]? = some (.int .i64 x)
theorem splice_is {L : List Value} {x : Int} {k m : Nat} (h : allIs L x k) (hk : k + m ≤ L.length) : allIs (splice L k (List.replicate m (.int .i64 x))) x (k + m) := by
  intro i hi
  unfold splice
  rcases Nat.lt_or_ge i k with h1 | h1
  · rw [List.getElem?_append_left (by simp; omega), List.getElem?_take, if_pos h1]; exact h i h1
  · rw [List.getElem?_append_right (by simp; omega), List.getElem?_append_left (by simp; omega), List.getElem?_replicate]
    simp; omega
theorem int_one : (Try.prog.info? 3).map (·.size) = some 1 := by kernel_rfl
theorem step_plain {P : Program} {ops : Array Oper} {o : Oper} {a : Act} {w : World} {K : Act → World → Prop} {Q : Exit → Act → World → Prop} {E : Prop} (hgd : o.guard = none) (h : Oper.wp P o a w K Q) : if Region.wanted o (yielded ops a.tmps) = true then Oper.wp P o a w K Q else E := by
  rw [if_pos (by simp [Region.wanted, hgd])]; exact h
theorem wp_copy_splice {P : Program} {o : Oper} {a : Act} {w : World} {K : Act → World → Prop} {Q : Exit → Act → World → Prop} (hgd : o.guard = none) (d s : Operand) (dT sT : TypeId)
    (ho : o.op = .call { callee := .builtin .copy, args := #[d, s], argTypes := #[dT, sT] }) (elem : TypeId) (hu : P.underlying dT = some (.slice elem)) (hsz : (P.info? elem).map (·.size) = some 1)
    (dp sp : Option Addr) (dLen dCap sLen sCap : Nat) (hd : a.eval d = .slice dp dLen dCap) (hs : a.eval s = .slice sp sLen sCap)
    (g off : Nat) (cur : List Value) (t : TypeId) (hg : w.heap[g]? = some (.cells cur.toArray t (0, 0))) (cs : List Value) (hn : cs.length = Nat.min sLen dLen)
    (hpos : 0 < cs.length → dp = some ⟨g, off, none⟩ ∧ ∃ ad, sp = some ad ∧ ∀ j v, cs[j]? = some v → w.cell? (ad.add j) = some v)
    (hfit : off + cs.length ≤ cur.length) (h1 : ∀ v ∈ cs, v.oneCell' = true) (B : Nat) (w0 : World) (hb : Below B w0 w) (hBg : B ≤ g)
    (h : ∀ w', Hid (w'.heap[g]? = some (.cells (splice cur off cs).toArray t (0, 0))) → Below B w0 w' → K (a.put o.dst (goInt cs.length)) w') : Oper.wp P o a w K Q := by
  have h2 := step_copy_splice (ops := #[]) (Q := Q) (E := False) hgd d s dT sT ho elem hu hsz dp sp dLen dCap sLen sCap hd hs g off cur t hg cs hn hpos hfit h1 B w0 hb hBg h
  rw [if_pos (by simp [Region.wanted, hgd])] at h2; exact h2
set_option maxHeartbeats 2000000 in
set_option maxRecDepth 100000 in
theorem repeat_any {B c n : Nat} {A : Option Addr} {x : Int} (w : World) (hA : Sees elInt w B A 1 [x]) (hn0 : 0 < n) (hn : n ≤ 1048576) :
    Calls Try.prog 129 #[.slice A 1 c, .int .i64 n] w fun e w' => ∃ v, e = .returned v ∧ Owns elInt w' w.heap.size 3 v (List.replicate n x) ∧ Below w.heap.size w w' := by
  obtain ⟨i0, hi, hz0, hz1, hz2⟩ := info_parts int_info
  have hmk := fun W => make_n (P := Try.prog) Try.underlying26 hi hz0 (n := n) (by rw [hz2]; omega) (by omega) W
  rw [hz1] at hmk
  clear hi hz0 hz1 hz2
  obtain ⟨b, o, rfl, hbB, hc⟩ := hA.at_ (k := 0) (by decide)
  have c0 := hc 0 x rfl 0 _ rfl
  simp only [elInt, Nat.zero_mul, Nat.add_zero] at c0
  have HM : Hid (∀ W, Calls Try.prog 145 #[.int .u64 1, .int .u64 n] W fun e w' => e = .returned (.tuple #[.int .u64 0, .int .u64 n]) ∧ w' = W) := fun W => by
    have h1 := Try.bits_Mul 1 n (by decide) (by omega) W
    rw [show 1 * n / 18446744073709551616 = 0 by omega, show 1 * n % 18446744073709551616 = n by omega] at h1
    exact h1
  have iu : IntKind.u64.wrap (n : Int) = (n : Int) := by rw [IntKind.wrap_u64]; omega
  have ii : IntKind.i64.wrap (n : Int) = (n : Int) := IntWalk.i64_in _ (by omega)
  have HB := hid hbB
  clear hA hc
  go_enter Try.func129, Try.ntmps129
  go_wp2_with fail
  refine (HM.out _).mono ?_
  rintro e w1 ⟨rfl, rfl⟩
  have i9 : ¬ ((9223372036854775807 : Int) < (n : Int)) := by omega
  obtain ⟨L0, hL0⟩ : ∃ L0 : List Value, L0 = (madeCells #[Value.int .i64 0] n).toList := ⟨_, rfl⟩
  have hsz0 : L0.length = n := by rw [hL0]; simpa using size_madeCells #[Value.int .i64 0] n
  have hb0 := bl_alloc (Below.refl w1.heap.size w1) (.cells (madeCells #[.int .i64 0] n) 3)
  have hg0 : (w1.alloc (.cells (madeCells #[.int .i64 0] n) 3)).heap[w1.heap.size]? = some (.cells L0.toArray 3 (0, 0)) := by
    have := Blk.new w1 3 (madeCells #[.int .i64 0] n)
    unfold Blk at this
    rw [hL0]; simpa using this
  have c1 := bl_cell hb0 c0
  have HG0 := hid hg0
  have hmin : Hid ([Value.int .i64 x].length = Nat.min 1 n) := by show 1 = min 1 n; omega
  have HL0 := hid hsz0
  have HB0 := hid hb0
  clear hb0 hg0 hsz0 hL0 c0
  go_wp2_with (first
    | (refine wpList_copy_splice rfl _ _ 26 26 rfl 3 Try.underlying26 int_one _ _ _ _ _ _ rfl rfl w1.heap.size 0 L0 3 HG0.out [.int .i64 x] hmin.out (fun _ => ⟨rfl, _, rfl, fun j v hj => by have : j = 0 := by { have := (List.getElem?_eq_some_iff.1 hj).1; simp at this; omega }; subst this; simp at hj; subst hj; simpa [Addr.add] using c1⟩) (by simp; rw [HL0.out]; omega) (by intro v hv; simp at hv; subst hv; rfl) w1.heap.size w1 HB0.out (Nat.le_refl _) ?_)
    | go_in)
  intro w2 hg2 hb2
  have hi1 : Hid (allIs (splice L0 0 [Value.int .i64 x]) x 1) := by
    have := splice_is (L := L0) (x := x) (k := 0) (m := 1) (fun i hi => by omega) (by rw [HL0.out]; omega)
    exact this
  have hl1 : Hid ((splice L0 0 [Value.int .i64 x]).length = n) := by unfold Hid; rw [length_splice _ _ _ (by rw [HL0.out]; simp; omega)]; exact HL0.out
  generalize splice L0 0 [Value.int .i64 x] = L1 at *
  clear HG0 HB0 HL0 c1 hmk iu ii HM
  go_wp2_with fail
  go_loopw [8] (fun i wr => ∃ (k : Nat) (L : List Value), (1 ≤ k ∧ k ≤ n) ∧ i = .int .i64 k ∧ Hid (wr.heap[w1.heap.size]? = some (.cells L.toArray 3 (0, 0))) ∧ Hid (L.length = n) ∧ Hid (allIs L x k) ∧ Below w1.heap.size w1 wr) (fun i _ => n - (intOf i).toNat)
  case atStart => exact ⟨1, L1, ⟨by decide, by omega⟩, rfl, hg2, hl1, hi1, hb2⟩
  case round =>
    clear hg2 hl1 hi1 hb2
    obtain ⟨k, L, ⟨hk0, hk⟩, rfl, hg, hl, his, hb⟩ := hrel
    by_cases hlt : k < n
    · obtain ⟨m, hm⟩ : ∃ m, m = min k (n - k) := ⟨_, rfl⟩
      have hm0 : 0 < m := by omega
      have hmk : m ≤ k := by omega
      have hmn : k + m ≤ n := by omega
      have hmin : Hid ((List.replicate m (Value.int .i64 x)).length = Nat.min k (n - k)) := by unfold Hid; rw [List.length_replicate]; exact hm
      have hb' := hb.drew
      have hgd : Hid (wr.drew.heap[w1.heap.size]? = some (.cells L.toArray 3 (0, 0))) := hg.out
      have hi2 : Hid (allIs (splice L k (List.replicate m (Value.int .i64 x))) x (k + m)) := splice_is his.out (by rw [hl.out]; exact hmn)
      have hl2 : Hid ((splice L k (List.replicate m (Value.int .i64 x))).length = n) := by unfold Hid; rw [length_splice _ _ _ (by rw [hl.out]; simp; exact hmn)]; exact hl.out
      have hsrc : Hid (∀ (W : World), W.heap[w1.heap.size]? = some (.cells L.toArray 3 (0, 0)) → ∀ (j : Nat) (v : Value), (List.replicate m (Value.int .i64 x))[j]? = some v → W.cell? ((⟨w1.heap.size, 0, none⟩ : Addr).add j) = some v) := fun W hW j v hj => by
        have hjm : j < m := by have := (List.getElem?_eq_some_iff.1 hj).1; simpa using this
        rw [List.getElem?_replicate] at hj
        rw [if_pos hjm] at hj
        injection hj with hj; subst hj
        have e : ((⟨w1.heap.size, 0, none⟩ : Addr).add j) = ⟨w1.heap.size, j, none⟩ := by unfold Addr.add; split; rename_i h0; rw [h0]; simp
        rw [e, Blk.cell (cur := L.toArray) (e := 3) hW]
        simpa using his.out j (by omega)
      have hlf : Hid (k + (List.replicate m (Value.int .i64 x)).length ≤ L.length) := by unfold Hid; rw [hl.out]; simp; exact hmn
      have hone : Hid (∀ v ∈ List.replicate m (Value.int .i64 x), v.oneCell' = true) := fun v hv => by rw [(List.mem_replicate.1 hv).2]; rfl
      have hlen : Hid ((List.replicate m (Value.int .i64 x)).length = m) := by unfold Hid; simp
      have ik : (k : Int) < (n : Int) := by omega
      have hdec : Hid ((if n = k then (some ⟨w1.heap.size, 0, none⟩ : Option Addr) else some ⟨w1.heap.size, k, none⟩) = some ⟨w1.heap.size, k, none⟩) := if_neg (by omega)
      have im : IntKind.i64.wrap ((k : Int) + (m : Int)) = ((k + m : Nat) : Int) := by rw [IntWalk.i64_in _ (by omega)]; omega
      clear hm his
      generalize List.replicate m (Value.int .i64 x) = C at *
      go_wp2_with fail
      go_region_law (refine step_plain rfl ?_; simp only [Act.put, List.getElem_toArray, List.getElem_cons_zero, List.getElem_cons_succ, List.setIfInBounds_toArray, List.set_cons_zero, List.set_cons_succ, hdec.out]; refine wp_copy_splice rfl (.tmp 41) (.tmp 44) 26 26 rfl 3 Try.underlying26 int_one _ _ _ _ _ _ rfl rfl w1.heap.size k L 3 hgd.out C hmin.out (fun _ => ⟨rfl, _, rfl, hsrc.out _ hgd.out⟩) hlf.out hone.out w1.heap.size w1 hb' (Nat.le_refl _) ?_; intro w4 hg4 hb4; rw [hlen.out]; simp only [Act.put, List.setIfInBounds_toArray, List.set_cons_zero, List.set_cons_succ])
      all_goals
        go_wp2
        refine ⟨?_, by simp [Act.put, intOf]; omega⟩
        first
          | exact ⟨k + m, _, ⟨by omega, by omega⟩, by go_num, hg4, hl2, hi2, hb4⟩
          | ((repeat apply Exists.intro); exact ⟨⟨k + m, _, ⟨by omega, by omega⟩, by go_num, hg4, hl2, hi2, hb4⟩, rfl⟩)
    · have hkn : k = n := by omega
      have HO : Hid (Owns elInt wr w1.heap.size 3 (.slice (some ⟨w1.heap.size, 0, none⟩) n n) (List.replicate n x)) := by
        refine Owns.of_blk (n := n) (cap := n) (cur := L.toArray) hg.out (Nat.le_refl _) (by simp) (Nat.le_refl _) (by show L.toArray.size = n * 1; simp; exact hl.out) (by unfold maxLen; omega) (fun j y hj hy i u hu => ?_)
        have hu' : [Value.int .i64 y][i]? = some u := hu
        match i, hu' with
        | 0, hu' =>
          simp at hu'; subst hu'
          rw [List.getElem?_replicate, if_pos hj] at hy
          injection hy with hy; subst hy
          have e : j * elInt.sz + 0 = j := by show j * 1 + 0 = j; omega
          rw [e]
          simpa using his.out j (by omega)
        | i + 1, hu' => simp at hu'
      clear hg hl his hkn
      go_wp2
      go_ret
      exact ⟨_, rfl, HO.out, hb⟩
end Go.Proofs.Ytjklphlgmlomjaa
