/- Lemmas and walks that the claim rests on, laid together. Conditions: none. -/
import Derived.Test.YtmkgicfgcoeilaaDoorZ2b9016d1b45f
import Derived.Test.YtmkgicfgcoeilaaDoorZb454307f9e42
import Derived.Test.YtmkgicfgcoeilaaDoorZdb50fc3d8a8d
/- FormatNetwork of both sides, walked. Conditions: the library's table of powers of ten reads as it was laid. -/
namespace Go.Proofs.YtmkgicfgcoeilaaDoor
open Go.RowKit
section
variable {n c m d : Nat} {A A' : Option Addr} {xs : List ByteArray} {fs : List Fib}
theorem fn_no (h : goodB xs fs = false) : fnS xs fs = ⟨#[]⟩ := by unfold fnS; rw [h]; rfl
theorem fn_yes (h : goodB xs fs = true) {o : ByteArray} (ho : o.data.toList = ntL xs fs fs.length) : fnS xs fs = o := by
  unfold fnS
  rw [if_pos h]
  exact ba_eq (by rw [ho, nt_all])
/-- The ends of a good fiber, and its numbers. -/
theorem fib_ab (hg : goodB xs fs = true) {f : Fib} (hf : f ∈ fs) : ∃ (a b : Nat) (x y : ByteArray), f.a = (a : Int) ∧ f.b = (b : Int) ∧ xs[a]? = some x ∧ xs[b]? = some y ∧ nmB xs f.a = x ∧ nmB xs f.b = y ∧ x.size ≤ 8 ∧ y.size ≤ 8 ∧ (0 ≤ f.len ∧ f.len ≤ 5000) ∧ 0 ≤ f.risk ∧ f.risk ≤ 9 := by
  obtain ⟨x, y, hx, hy, e1, e2, h1, h2, h3, h4, h5⟩ := good_fib hg hf
  have h := goodB_fibB hg hf
  unfold fibB at h
  rw [decide_eq_true_eq] at h
  exact ⟨f.a.toNat, f.b.toNat, x, y, by omega, by omega, hx, hy, e1, e2, name_size (good_name hg (List.mem_of_getElem? hx)), name_size (good_name hg (List.mem_of_getElem? hy)), by omega, h4, h5⟩
set_option maxHeartbeats 4000000 in
set_option maxRecDepth 100000 in
theorem l3Network_any (w : World) (h : NetIs w A n c A' m d xs fs) (hg : goodB xs fs = true) :
    Calls Tryd.prog 11 #[.agg #[.slice A n c, .slice A' m d]] w fun e w' => e = .returned (.string (fnS xs fs)) ∧ Below w.heap.size w w' := by
  have hS := (Led.nil w).blk_ w.heap.size rfl 25 #[.slice A n c, .slice A' m d]
  have HS := hid hS
  have hb := goodB_bd hg
  have hlx := h.xlen
  have hlf := h.flen
  have hn8 : n ≤ 8 := by omega
  have hm14 : m ≤ 14 := by omega
  have HLX := hid hlx
  have HLF := hid hlf
  have HN := hid h
  have HG := hid hg
  have HSX := hid h.strs
  have HSF := hid h.fibs
  have H0 : Hid ((⟨#[110, 111, 100, 101, 115]⟩ : ByteArray).data.toList = hdL xs 0) := by unfold Hid; rw [hd_zero]; rfl
  clear hS hb hlx hlf h hg
  go_enter Tryd.func11, Tryd.ntmps11
  go_wp2_with fail
  go_loopw [3, 4] (fun o i wr => ∃ (k : Nat) (s : ByteArray), k ≤ n ∧ i = .int .i64 k ∧ o = .string s ∧ s.size ≤ 5 + 9 * k ∧ Hid (s.data.toList = hdL xs k) ∧ Hid (Led w wr [tBlk w.heap.size 25 #[.slice A n c, .slice A' m d]])) (fun _ i _ => n - (intOf i).toNat)
  case atStart => exact ⟨0, _, Nat.zero_le _, rfl, rfl, by decide, H0, HS⟩
  case round =>
    clear HS H0
    obtain ⟨k, s, hk, rfl, rfl, hsz, HO, HS⟩ := hrel
    have q0 := HS.out.cell 0 0 rfl rfl
    have q1 := HS.out.cell 0 1 rfl rfl
    by_cases hlt : k < n
    · obtain ⟨x, hx⟩ := get_of (k := k) HLX.out hlt
      obtain ⟨b, o, rfl, _, hc⟩ := HSX.out.at_ hlt
      have f0 := bl_cell HS.out.bl (hc k x hx 0 _ rfl)
      simp only [elStr, Nat.mul_one, Nat.add_zero] at f0
      have hx8 := name_size (good_name HG.out (List.mem_of_getElem? hx))
      have HX := hid hx
      have HO2 : Hid ((s ++ ⟨#[32]⟩ ++ x).data.toList = hdL xs (k + 1)) := by
        unfold Hid
        rw [Joins.data_append, Joins.data_append, HO.out, hd_succ hx]
        simp
      have hs2 : (s ++ ⟨#[32]⟩ ++ x).size ≤ 5 + 9 * (k + 1) := by
        rw [ByteArray.size_append, ByteArray.size_append]
        have : (⟨#[32]⟩ : ByteArray).size = 1 := rfl
        omega
      have HS2 := hid hs2
      clear hc hx hs2
      go_wp2
      go_roundw
      case rel => exact ⟨k + 1, _, by omega, by go_num, rfl, HS2.out, HO2, HS⟩
      case measure => simp [intOf]; omega
    · have hkn : n = k := by omega
      subst hkn
      have HO2 : Hid ((s ++ ⟨#[10]⟩).data.toList = ntL xs fs 0) := by
        unfold Hid
        rw [Joins.data_append, HO.out, nt_zero, HLX.out]
      have hs2 : (s ++ ⟨#[10]⟩).size ≤ 80 + 60 * 0 := by
        rw [ByteArray.size_append]
        have : (⟨#[10]⟩ : ByteArray).size = 1 := rfl
        omega
      obtain ⟨s2, hss⟩ : ∃ z, z = s ++ ⟨#[10]⟩ := ⟨_, rfl⟩
      have HSS := hid hss
      rw [← hss] at HO2 hs2
      clear hss HO
      go_wp2_with fail
      rw [← HSS.out]
      clear HSS
      go_loopw [3, 5] (fun o i wr => ∃ (k : Nat) (s : ByteArray), k ≤ m ∧ i = .int .i64 k ∧ o = .string s ∧ s.size ≤ 80 + 60 * k ∧ Hid (s.data.toList = ntL xs fs k) ∧ Hid (Led w wr [tBlk w.heap.size 25 #[.slice A n c, .slice A' m d]])) (fun _ i _ => m - (intOf i).toNat)
      case atStart => exact ⟨0, s2, Nat.zero_le _, rfl, rfl, hs2, HO2, HS⟩
      case round =>
        clear HS HO2 hs2 q0 q1
        obtain ⟨k, s, hk, rfl, rfl, hsz, HO, HS⟩ := hrel
        by_cases hlt : k < m
        · obtain ⟨f, hf⟩ := get_of (k := k) HLF.out hlt
          obtain ⟨b, o, rfl, _, hc⟩ := HSF.out.at_ hlt
          have f0 := bl_cell HS.out.bl (hc k f hf 0 _ rfl)
          have f1 := bl_cell HS.out.bl (hc k f hf 1 _ rfl)
          have f2 := bl_cell HS.out.bl (hc k f hf 2 _ rfl)
          have f3 := bl_cell HS.out.bl (hc k f hf 3 _ rfl)
          simp only [elFib, Nat.add_zero] at f0 f1 f2 f3
          obtain ⟨p, q, x, y, ea, eb, hx, hy, e1, e2, hx8, hy8, hl, hr0, hr9⟩ := fib_ab HG.out (List.mem_of_getElem? hf)
          have hp : p < n := by have := (List.getElem?_eq_some_iff.1 hx).1; have := HLX.out; omega
          have hq : q < n := by have := (List.getElem?_eq_some_iff.1 hy).1; have := HLX.out; omega
          obtain ⟨b2, o2, rfl, _, hc2⟩ := HSX.out.at_ hp
          have g0 := bl_cell HS.out.bl (hc2 p x hx 0 _ rfl)
          have g1 := bl_cell HS.out.bl (hc2 q y hy 0 _ rfl)
          simp only [elStr, Nat.mul_one, Nat.add_zero] at g0 g1
          rw [ea] at f0
          rw [eb] at f1
          have HL0 := hid (ln_eq (xs := xs) f)
          rw [e1, e2] at HL0
          obtain ⟨fl, hfl⟩ : ∃ z, z = f.len := ⟨_, rfl⟩
          obtain ⟨fr, hfr⟩ : ∃ z, z = f.risk := ⟨_, rfl⟩
          rw [← hfl] at f2 HL0 hl
          rw [← hfr] at f3 HL0 hr0 hr9
          have HNT := hid (nt_succ (xs := xs) hf)
          have hz1 := (numS_size (n := fl) (by omega)).2
          have hz2 := (numS_size (n := fr) (by omega)).2
          have HS2 := hid (HS.out.blk_ wr.heap.size rfl 39 #[.int .i64 (p : Int), .int .i64 (q : Int), .int .i64 fl, .int .i64 fr])
          have B1 := bl_alloc (Below.refl wr.heap.size wr) (.cells #[.int .i64 (p : Int), .int .i64 (q : Int), .int .i64 fl, .int .i64 fr] 39)
          have G0 := bl_cell B1 g0
          have G1 := bl_cell B1 g1
          have C0 : ∀ w', Cls (wr.alloc (.cells #[.int .i64 (p : Int), .int .i64 (q : Int), .int .i64 fl, .int .i64 fr] 39)) w' → w'.cell? ⟨w.heap.size, 0, none⟩ = some (.slice (some ⟨b2, o2, none⟩) n c) := fun _ h => h.cell (HS2.out.cell 1 0 rfl rfl)
          have C2 : ∀ w', Cls (wr.alloc (.cells #[.int .i64 (p : Int), .int .i64 (q : Int), .int .i64 fl, .int .i64 fr] 39)) w' → w'.cell? ⟨wr.heap.size, 0, none⟩ = some (.int .i64 (p : Int)) := fun _ h => h.cell (HS2.out.cell 0 0 rfl rfl)
          have C3 : ∀ w', Cls (wr.alloc (.cells #[.int .i64 (p : Int), .int .i64 (q : Int), .int .i64 fl, .int .i64 fr] 39)) w' → w'.cell? ⟨wr.heap.size, 1, none⟩ = some (.int .i64 (q : Int)) := fun _ h => h.cell (HS2.out.cell 0 1 rfl rfl)
          have C4 : ∀ w', Cls (wr.alloc (.cells #[.int .i64 (p : Int), .int .i64 (q : Int), .int .i64 fl, .int .i64 fr] 39)) w' → w'.cell? ⟨wr.heap.size, 2, none⟩ = some (.int .i64 fl) := fun _ h => h.cell (HS2.out.cell 0 2 rfl rfl)
          have C5 : ∀ w', Cls (wr.alloc (.cells #[.int .i64 (p : Int), .int .i64 (q : Int), .int .i64 fl, .int .i64 fr] 39)) w' → w'.cell? ⟨wr.heap.size, 3, none⟩ = some (.int .i64 fr) := fun _ h => h.cell (HS2.out.cell 0 3 rfl rfl)
          have C6 : ∀ w', Cls (wr.alloc (.cells #[.int .i64 (p : Int), .int .i64 (q : Int), .int .i64 fl, .int .i64 fr] 39)) w' → w'.cell? ⟨b2, o2 + p, none⟩ = some (.string x) := fun _ h => h.cell G0
          have C7 : ∀ w', Cls (wr.alloc (.cells #[.int .i64 (p : Int), .int .i64 (q : Int), .int .i64 fl, .int .i64 fr] 39)) w' → w'.cell? ⟨b2, o2 + q, none⟩ = some (.string y) := fun _ h => h.cell G1
          have q0 := HS.out.cell 0 0 rfl rfl
          have q1 := HS.out.cell 0 1 rfl rfl
          have HNUM := hid (fun w' => l1Num_any fl w' (by omega))
          have HNUM2 := hid (fun w' => l1Num_any fr w' (by omega))
          clear hc hf ea eb hx hy e1 e2 hc2 g0 g1 G0 G1 B1 hfl hfr HS
          have hc6 : (⟨#[102, 105, 98, 101, 114, 32]⟩ : ByteArray).size = 6 := rfl
          have hc1 : (⟨#[32]⟩ : ByteArray).size = 1 := rfl
          have K0 : ∀ w', (Op.stringOp .add (s) ((⟨#[102, 105, 98, 101, 114, 32]⟩ : ByteArray))).run Tryd.prog w' = .ok (.string (s ++ (⟨#[102, 105, 98, 101, 114, 32]⟩ : ByteArray))) w' := fun w' => run_string_add_sum w' _ _ (by rw [hc6]; omega)
          have K1 : ∀ w', (Op.stringOp .add (s ++ (⟨#[102, 105, 98, 101, 114, 32]⟩ : ByteArray)) (x)).run Tryd.prog w' = .ok (.string (s ++ (⟨#[102, 105, 98, 101, 114, 32]⟩ : ByteArray) ++ x)) w' := fun w' => run_string_add_sum w' _ _ (by simp only [ByteArray.size_append, hc6]; omega)
          have K2 : ∀ w', (Op.stringOp .add (s ++ (⟨#[102, 105, 98, 101, 114, 32]⟩ : ByteArray) ++ x) ((⟨#[32]⟩ : ByteArray))).run Tryd.prog w' = .ok (.string (s ++ (⟨#[102, 105, 98, 101, 114, 32]⟩ : ByteArray) ++ x ++ (⟨#[32]⟩ : ByteArray))) w' := fun w' => run_string_add_sum w' _ _ (by simp only [ByteArray.size_append, hc6, hc1]; omega)
          have K3 : ∀ w', (Op.stringOp .add (s ++ (⟨#[102, 105, 98, 101, 114, 32]⟩ : ByteArray) ++ x ++ (⟨#[32]⟩ : ByteArray)) (y)).run Tryd.prog w' = .ok (.string (s ++ (⟨#[102, 105, 98, 101, 114, 32]⟩ : ByteArray) ++ x ++ (⟨#[32]⟩ : ByteArray) ++ y)) w' := fun w' => run_string_add_sum w' _ _ (by simp only [ByteArray.size_append, hc6, hc1]; omega)
          have K4 : ∀ w', (Op.stringOp .add (s ++ (⟨#[102, 105, 98, 101, 114, 32]⟩ : ByteArray) ++ x ++ (⟨#[32]⟩ : ByteArray) ++ y) ((⟨#[32]⟩ : ByteArray))).run Tryd.prog w' = .ok (.string (s ++ (⟨#[102, 105, 98, 101, 114, 32]⟩ : ByteArray) ++ x ++ (⟨#[32]⟩ : ByteArray) ++ y ++ (⟨#[32]⟩ : ByteArray))) w' := fun w' => run_string_add_sum w' _ _ (by simp only [ByteArray.size_append, hc6, hc1]; omega)
          have K5 : ∀ w', (Op.stringOp .add (s ++ (⟨#[102, 105, 98, 101, 114, 32]⟩ : ByteArray) ++ x ++ (⟨#[32]⟩ : ByteArray) ++ y ++ (⟨#[32]⟩ : ByteArray)) (numS fl)).run Tryd.prog w' = .ok (.string (s ++ (⟨#[102, 105, 98, 101, 114, 32]⟩ : ByteArray) ++ x ++ (⟨#[32]⟩ : ByteArray) ++ y ++ (⟨#[32]⟩ : ByteArray) ++ numS fl)) w' := fun w' => run_string_add_sum w' _ _ (by simp only [ByteArray.size_append, hc6, hc1]; omega)
          by_cases hr : 0 < fr
          · have HO2 : Hid ((s ++ ⟨#[102, 105, 98, 101, 114, 32]⟩ ++ x ++ ⟨#[32]⟩ ++ y ++ ⟨#[32]⟩ ++ numS fl ++ ⟨#[32, 114, 105, 115, 107, 32]⟩ ++ numS fr ++ ⟨#[10]⟩).data.toList = ntL xs fs (k + 1)) := by
              unfold Hid
              rw [HNT.out, HL0.out, if_pos hr, ← HO.out]
              simp [numS_list]
            have hs2 : (s ++ ⟨#[102, 105, 98, 101, 114, 32]⟩ ++ x ++ ⟨#[32]⟩ ++ y ++ ⟨#[32]⟩ ++ numS fl ++ ⟨#[32, 114, 105, 115, 107, 32]⟩ ++ numS fr ++ ⟨#[10]⟩).size ≤ 80 + 60 * (k + 1) := by
              simp only [ByteArray.size_append]
              have h1 : (⟨#[102, 105, 98, 101, 114, 32]⟩ : ByteArray).size = 6 := rfl
              have h2 : (⟨#[32]⟩ : ByteArray).size = 1 := rfl
              have h3 : (⟨#[32, 114, 105, 115, 107, 32]⟩ : ByteArray).size = 6 := rfl
              have h4 : (⟨#[10]⟩ : ByteArray).size = 1 := rfl
              omega
            have HS3 := hid hs2
            clear HO HL0 HNT hs2 hc6 hc1
            go_wp2_with fail
            generalize (wr.alloc (.cells #[.int .i64 (p : Int), .int .i64 (q : Int), .int .i64 fl, .int .i64 fr] 39)) = W1 at *
            refine region_cls (by kernel_rfl) (by kernel_rfl) ?_
            repeat (first
              | ((with_reducible refine quiet_pos ?_ (fun K hK => ?_))
                 · rfl
                 apply Exists.intro
                 refine ⟨fun w' hw' => ?_, ?_⟩
                 · go_simp
                   first
                     | with_reducible rfl
                     | go_at_call 25; with_reducible exact hw'.call (HNUM.out _)
                 simp only [Act.put, List.setIfInBounds_toArray, List.set_cons_zero, List.set_cons_succ]
                 refine hK _ ?_; clear hK K)
              | ((with_reducible refine quiet_neg ?_ (fun K hK => ?_))
                 · rfl
                 simp only [Act.put, List.setIfInBounds_toArray, List.set_cons_zero, List.set_cons_succ]
                 refine hK _ ?_; clear hK K))
            with_reducible refine wpQuiet_nil ?_
            intro wz hwz'
            have r5 := C5 wz hwz'
            have HS4 := hid (HS2.out.step hwz')
            clear C0 C2 C3 C4 C5 C6 C7 HS2 hwz' f0 f1 f2 f3 q0 q1
            go_wp2_with fail
            refine (HNUM2.out _).mono ?_
            rintro e w6 ⟨rfl, hb6⟩
            have HS5 := hid ((HS4.out.step hb6).drop 1)
            clear HS4 hb6 r5
            go_wp2
            go_roundw
            case rel => first
              | exact ⟨k + 1, _, by omega, by go_num, rfl, HS3.out, HO2, HS5⟩
              | ((repeat apply Exists.intro); exact ⟨⟨k + 1, _, by omega, by go_num, rfl, HS3.out, HO2, HS5⟩, rfl⟩)
            case measure => simp [intOf]; omega
          · have HO2 : Hid ((s ++ ⟨#[102, 105, 98, 101, 114, 32]⟩ ++ x ++ ⟨#[32]⟩ ++ y ++ ⟨#[32]⟩ ++ numS fl ++ ⟨#[10]⟩).data.toList = ntL xs fs (k + 1)) := by
              unfold Hid
              rw [HNT.out, HL0.out, if_neg hr, ← HO.out]
              simp [numS_list]
            have hs2 : (s ++ ⟨#[102, 105, 98, 101, 114, 32]⟩ ++ x ++ ⟨#[32]⟩ ++ y ++ ⟨#[32]⟩ ++ numS fl ++ ⟨#[10]⟩).size ≤ 80 + 60 * (k + 1) := by
              simp only [ByteArray.size_append]
              have h1 : (⟨#[102, 105, 98, 101, 114, 32]⟩ : ByteArray).size = 6 := rfl
              have h2 : (⟨#[32]⟩ : ByteArray).size = 1 := rfl
              have h4 : (⟨#[10]⟩ : ByteArray).size = 1 := rfl
              omega
            have HS3 := hid hs2
            clear HO HL0 HNT hs2 hc6 hc1
            go_wp2_with fail
            generalize (wr.alloc (.cells #[.int .i64 (p : Int), .int .i64 (q : Int), .int .i64 fl, .int .i64 fr] 39)) = W1 at *
            refine region_cls (by kernel_rfl) (by kernel_rfl) ?_
            repeat (first
              | ((with_reducible refine quiet_pos ?_ (fun K hK => ?_))
                 · rfl
                 apply Exists.intro
                 refine ⟨fun w' hw' => ?_, ?_⟩
                 · go_simp
                   first
                     | with_reducible rfl
                     | go_at_call 25; with_reducible exact hw'.call (HNUM.out _)
                 simp only [Act.put, List.setIfInBounds_toArray, List.set_cons_zero, List.set_cons_succ]
                 refine hK _ ?_; clear hK K)
              | ((with_reducible refine quiet_neg ?_ (fun K hK => ?_))
                 · rfl
                 simp only [Act.put, List.setIfInBounds_toArray, List.set_cons_zero, List.set_cons_succ]
                 refine hK _ ?_; clear hK K))
            with_reducible refine wpQuiet_nil ?_
            intro wz hwz'
            have r5 := C5 wz hwz'
            have HS4 := hid ((HS2.out.step hwz').drop 1)
            clear C0 C2 C3 C4 C5 C6 C7 HS2 hwz' f0 f1 f2 f3 q0 q1
            go_wp2
            go_roundw
            case rel => first
              | exact ⟨k + 1, _, by omega, by go_num, rfl, HS3.out, HO2, HS4⟩
              | ((repeat apply Exists.intro); exact ⟨⟨k + 1, _, by omega, by go_num, rfl, HS3.out, HO2, HS4⟩, rfl⟩)
            case measure => simp [intOf]; omega
        · have hkm : k = m := by omega
          subst hkm
          have HE : Hid (fnS xs fs = s) := fn_yes HG.out (by rw [HO.out, HLF.out])
          have q0 := HS.out.cell 0 0 rfl rfl
          have q1 := HS.out.cell 0 1 rfl rfl
          clear HO hlt
          go_wp2
          go_ret
          exact ⟨by rw [HE.out]; rfl, HS.out.bl⟩
set_option maxHeartbeats 4000000 in
set_option maxRecDepth 100000 in
theorem implFormatNetwork (w : World) (h : NetIs w A n c A' m d xs fs) (ht : Tab w) :
    Calls Tryd.prog 15 #[.agg #[.slice A n c, .slice A' m d]] w fun e w' => e = .returned (.tuple #[.string (fnS xs fs), .bool (goodB xs fs)]) ∧ Below w.heap.size w w' := by
  have hS := (Led.nil w).blk_ w.heap.size rfl 25 #[.slice A n c, .slice A' m d]
  have HN := hid h
  have HT := hid ht
  clear ht
  cases hg : goodB xs fs
  · have H := hid (fn_no hg)
    clear h
    go_enter Tryd.func15, Tryd.ntmps15
    go_wp2_with fail
    refine (validN _ (HN.out.grow hS.bl)).mono ?_
    rintro e w1 ⟨rfl, hb⟩
    rw [hg]
    have HZ := hid (bl_then hS.bl hb)
    clear hb hS
    go_wp2_with fail
    go_ret2
    exact ⟨by rw [H.out]; rfl, HZ.out⟩
  · have hb := goodB_bd hg
    have hlx := h.xlen
    have hlf := h.flen
    have hn8 : n ≤ 8 := by omega
    have hn2 : 2 ≤ n := by omega
    have hm14 : m ≤ 14 := by omega
    have HLX := hid hlx
    have HLF := hid hlf
    have HG := hid hg
    have HSX := hid h.strs
    have HSF := hid h.fibs
    have hnc := h.1
    obtain ⟨b0, o0, rfl, hb0, hc0⟩ := h.strs.at_ (k := 0) (by omega)
    have HCX : Hid (∀ w', Below w.heap.size w w' → Calls Tryd.prog 31 #[.slice (some ⟨b0, o0, none⟩) xs.length c, .string ⟨#[32]⟩] w' fun e w2 => e = .returned (.string ⟨(Lib.join (byts xs) [32]).toArray⟩) ∧ Below w'.heap.size w' w2) := fun w' hw => by
      refine Tryd.strings_Join b0 o0 c xs ⟨#[32]⟩ w' (fun j x hj => ?_) (Nat.lt_of_lt_of_le hb0 hw.size) (by omega) (by have := hnc.1; omega) (by have h9 : (Lib.join (xs.map (·.data.toList)) [32]).length ≤ 9 * xs.length := join_len 32 (fun x hx => name_size (good_name hg hx)); show (Lib.join (xs.map (·.data.toList)) [32]).length ≤ _; omega)
      have h := hc0 j x hj 0 (.string x) rfl
      have h2 := bl_cell hw h
      simpa [elStr] using h2
    rw [hlx] at HCX
    obtain ⟨J, hJ⟩ : ∃ J : ByteArray, J = ⟨(Lib.join (byts xs) [32]).toArray⟩ := ⟨_, rfl⟩
    rw [← hJ] at HCX
    have HJL : Hid (J.data.toList = Lib.join (byts xs) [32]) := by unfold Hid; rw [hJ]
    have HO0 : Hid ((⟨#[110, 111, 100, 101, 115, 32]⟩ ++ J ++ ⟨#[10]⟩).data.toList = ntL xs fs 0) := by
      unfold Hid
      rw [Joins.data_append, Joins.data_append, HJL.out, nt_zero, hd_join (by intro e; rw [e] at hlx; simp at hlx; omega)]
      rfl
    have hJs : J.size ≤ 72 := by
      have h1 := join_len 32 (ws := xs) (fun x hx => name_size (good_name hg hx))
      rw [← HJL.out] at h1
      simp at h1
      omega
    clear hb hlx hlf h hJ hc0
    go_enter Tryd.func15, Tryd.ntmps15
    go_wp2_with fail
    refine (validN _ (HN.out.grow hS.bl)).mono ?_
    rintro e w1 ⟨rfl, hb⟩
    rw [HG.out]
    replace hS := hS.step hb
    have q0 := hS.cell 0 0 rfl rfl
    clear hb
    go_wp2_with fail
    refine (HCX.out _ hS.bl).mono ?_
    rintro e w2 ⟨rfl, hb⟩
    replace hS := hS.step hb
    have q0 := hS.cell 0 0 rfl rfl
    have q1 := hS.cell 0 1 rfl rfl
    have HS := hid hS
    have hs0 : (⟨#[110, 111, 100, 101, 115, 32]⟩ ++ J ++ ⟨#[10]⟩ : ByteArray).size ≤ 80 + 60 * 0 := by
      simp only [ByteArray.size_append]
      have h1 : (⟨#[110, 111, 100, 101, 115, 32]⟩ : ByteArray).size = 6 := rfl
      have h2 : (⟨#[10]⟩ : ByteArray).size = 1 := rfl
      omega
    have HS0 := hid hs0
    clear hb hS hs0
    go_wp2_with fail
    go_loopw [4, 18] (fun o i wr => ∃ (k : Nat) (s : ByteArray), k ≤ m ∧ i = .int .i64 k ∧ o = .string s ∧ s.size ≤ 80 + 60 * k ∧ Hid (s.data.toList = ntL xs fs k) ∧ Hid (Led w wr [tBlk w.heap.size 25 #[.slice (some ⟨b0, o0, none⟩) n c, .slice A' m d]])) (fun _ i _ => m - (intOf i).toNat)
    case atStart => exact ⟨0, _, Nat.zero_le _, rfl, rfl, HS0.out, HO0, HS⟩
    case round =>
      clear HS HO0 HS0 q0 q1
      obtain ⟨k, s, hk, rfl, rfl, hsz, HO, HS⟩ := hrel
      by_cases hlt : k < m
      · obtain ⟨f, hf⟩ := get_of (k := k) HLF.out hlt
        obtain ⟨b, o, rfl, _, hc⟩ := HSF.out.at_ hlt
        have f0 := bl_cell HS.out.bl (hc k f hf 0 _ rfl)
        have f1 := bl_cell HS.out.bl (hc k f hf 1 _ rfl)
        have f2 := bl_cell HS.out.bl (hc k f hf 2 _ rfl)
        have f3 := bl_cell HS.out.bl (hc k f hf 3 _ rfl)
        simp only [elFib, Nat.add_zero] at f0 f1 f2 f3
        obtain ⟨p, q, x, y, ea, eb, hx, hy, e1, e2, hx8, hy8, hl, hr0, hr9⟩ := fib_ab HG.out (List.mem_of_getElem? hf)
        have hp : p < n := by have := (List.getElem?_eq_some_iff.1 hx).1; have := HLX.out; omega
        have hq : q < n := by have := (List.getElem?_eq_some_iff.1 hy).1; have := HLX.out; omega
        obtain ⟨b2, o2, e00, _, hc2⟩ := HSX.out.at_ hp
        obtain ⟨rfl, rfl⟩ : b2 = b0 ∧ o2 = o0 := by injection e00 with e00; injection e00 with e1 e2; exact ⟨e1.symm, e2.symm⟩
        have g0 := bl_cell HS.out.bl (hc2 p x hx 0 _ rfl)
        have g1 := bl_cell HS.out.bl (hc2 q y hy 0 _ rfl)
        simp only [elStr, Nat.mul_one, Nat.add_zero] at g0 g1
        rw [ea] at f0
        rw [eb] at f1
        have HL0 := hid (ln_eq (xs := xs) f)
        rw [e1, e2] at HL0
        obtain ⟨fl, hfl⟩ : ∃ z, z = f.len := ⟨_, rfl⟩
        obtain ⟨fr, hfr⟩ : ∃ z, z = f.risk := ⟨_, rfl⟩
        rw [← hfl] at f2 HL0 hl
        rw [← hfr] at f3 HL0 hr0 hr9
        have HNT := hid (nt_succ (xs := xs) hf)
        have hz1 := (numS_size (n := fl) (by omega)).2
        have hz2 := (numS_size (n := fr) (by omega)).2
        have HS2 := hid (HS.out.blk_ wr.heap.size rfl 39 #[.int .i64 (p : Int), .int .i64 (q : Int), .int .i64 fl, .int .i64 fr])
        have B1 := bl_alloc (Below.refl wr.heap.size wr) (.cells #[.int .i64 (p : Int), .int .i64 (q : Int), .int .i64 fl, .int .i64 fr] 39)
        have G0 := bl_cell B1 g0
        have G1 := bl_cell B1 g1
        have C0 : ∀ w', Cls (wr.alloc (.cells #[.int .i64 (p : Int), .int .i64 (q : Int), .int .i64 fl, .int .i64 fr] 39)) w' → w'.cell? ⟨w.heap.size, 0, none⟩ = some (.slice (some ⟨b2, o2, none⟩) n c) := fun _ h => h.cell (HS2.out.cell 1 0 rfl rfl)
        have C2 : ∀ w', Cls (wr.alloc (.cells #[.int .i64 (p : Int), .int .i64 (q : Int), .int .i64 fl, .int .i64 fr] 39)) w' → w'.cell? ⟨wr.heap.size, 0, none⟩ = some (.int .i64 (p : Int)) := fun _ h => h.cell (HS2.out.cell 0 0 rfl rfl)
        have C3 : ∀ w', Cls (wr.alloc (.cells #[.int .i64 (p : Int), .int .i64 (q : Int), .int .i64 fl, .int .i64 fr] 39)) w' → w'.cell? ⟨wr.heap.size, 1, none⟩ = some (.int .i64 (q : Int)) := fun _ h => h.cell (HS2.out.cell 0 1 rfl rfl)
        have C4 : ∀ w', Cls (wr.alloc (.cells #[.int .i64 (p : Int), .int .i64 (q : Int), .int .i64 fl, .int .i64 fr] 39)) w' → w'.cell? ⟨wr.heap.size, 2, none⟩ = some (.int .i64 fl) := fun _ h => h.cell (HS2.out.cell 0 2 rfl rfl)
        have C5 : ∀ w', Cls (wr.alloc (.cells #[.int .i64 (p : Int), .int .i64 (q : Int), .int .i64 fl, .int .i64 fr] 39)) w' → w'.cell? ⟨wr.heap.size, 3, none⟩ = some (.int .i64 fr) := fun _ h => h.cell (HS2.out.cell 0 3 rfl rfl)
        have C6 : ∀ w', Cls (wr.alloc (.cells #[.int .i64 (p : Int), .int .i64 (q : Int), .int .i64 fl, .int .i64 fr] 39)) w' → w'.cell? ⟨b2, o2 + p, none⟩ = some (.string x) := fun _ h => h.cell G0
        have C7 : ∀ w', Cls (wr.alloc (.cells #[.int .i64 (p : Int), .int .i64 (q : Int), .int .i64 fl, .int .i64 fr] 39)) w' → w'.cell? ⟨b2, o2 + q, none⟩ = some (.string y) := fun _ h => h.cell G1
        have q0 := HS.out.cell 0 0 rfl rfl
        have q1 := HS.out.cell 0 1 rfl rfl
        clear hc hf ea eb hx hy e1 e2 hc2 g0 g1 G0 G1 B1 hfl hfr HS
        have hc6 : (⟨#[102, 105, 98, 101, 114, 32]⟩ : ByteArray).size = 6 := rfl
        have hc1 : (⟨#[32]⟩ : ByteArray).size = 1 := rfl
        have K0 : ∀ w', (Op.stringOp .add ((⟨#[102, 105, 98, 101, 114, 32]⟩ : ByteArray)) (x)).run Tryd.prog w' = .ok (.string ((⟨#[102, 105, 98, 101, 114, 32]⟩ : ByteArray) ++ x)) w' := fun w' => run_string_add_sum w' _ _ (by rw [hc6]; omega)
        have K1 : ∀ w', (Op.stringOp .add ((⟨#[102, 105, 98, 101, 114, 32]⟩ : ByteArray) ++ x) ((⟨#[32]⟩ : ByteArray))).run Tryd.prog w' = .ok (.string ((⟨#[102, 105, 98, 101, 114, 32]⟩ : ByteArray) ++ x ++ (⟨#[32]⟩ : ByteArray))) w' := fun w' => run_string_add_sum w' _ _ (by simp only [ByteArray.size_append, hc6, hc1]; omega)
        have K2 : ∀ w', (Op.stringOp .add ((⟨#[102, 105, 98, 101, 114, 32]⟩ : ByteArray) ++ x ++ (⟨#[32]⟩ : ByteArray)) (y)).run Tryd.prog w' = .ok (.string ((⟨#[102, 105, 98, 101, 114, 32]⟩ : ByteArray) ++ x ++ (⟨#[32]⟩ : ByteArray) ++ y)) w' := fun w' => run_string_add_sum w' _ _ (by simp only [ByteArray.size_append, hc6, hc1]; omega)
        have K3 : ∀ w', (Op.stringOp .add ((⟨#[102, 105, 98, 101, 114, 32]⟩ : ByteArray) ++ x ++ (⟨#[32]⟩ : ByteArray) ++ y) ((⟨#[32]⟩ : ByteArray))).run Tryd.prog w' = .ok (.string ((⟨#[102, 105, 98, 101, 114, 32]⟩ : ByteArray) ++ x ++ (⟨#[32]⟩ : ByteArray) ++ y ++ (⟨#[32]⟩ : ByteArray))) w' := fun w' => run_string_add_sum w' _ _ (by simp only [ByteArray.size_append, hc6, hc1]; omega)
        have K4 : ∀ w', (Op.stringOp .add ((⟨#[102, 105, 98, 101, 114, 32]⟩ : ByteArray) ++ x ++ (⟨#[32]⟩ : ByteArray) ++ y ++ (⟨#[32]⟩ : ByteArray)) (numS fl)).run Tryd.prog w' = .ok (.string ((⟨#[102, 105, 98, 101, 114, 32]⟩ : ByteArray) ++ x ++ (⟨#[32]⟩ : ByteArray) ++ y ++ (⟨#[32]⟩ : ByteArray) ++ numS fl)) w' := fun w' => run_string_add_sum w' _ _ (by simp only [ByteArray.size_append, hc6, hc1]; omega)
        have K9 : ∀ w', (Op.stringOp .add s ((⟨#[102, 105, 98, 101, 114, 32]⟩ : ByteArray) ++ x ++ (⟨#[32]⟩ : ByteArray) ++ y ++ (⟨#[32]⟩ : ByteArray) ++ numS fl)).run Tryd.prog w' = .ok (.string (s ++ ((⟨#[102, 105, 98, 101, 114, 32]⟩ : ByteArray) ++ x ++ (⟨#[32]⟩ : ByteArray) ++ y ++ (⟨#[32]⟩ : ByteArray) ++ numS fl))) w' := fun w' => run_string_add_sum w' _ _ (by simp only [ByteArray.size_append, hc6, hc1]; omega)
        by_cases hr : 0 < fr
        · have HO2 : Hid ((s ++ (⟨#[102, 105, 98, 101, 114, 32]⟩ ++ x ++ ⟨#[32]⟩ ++ y ++ ⟨#[32]⟩ ++ numS fl) ++ (⟨#[32, 114, 105, 115, 107, 32]⟩ ++ numS fr) ++ ⟨#[10]⟩).data.toList = ntL xs fs (k + 1)) := by
            unfold Hid
            rw [HNT.out, HL0.out, if_pos hr, ← HO.out]
            simp [numS_list]
          have hs2 : (s ++ (⟨#[102, 105, 98, 101, 114, 32]⟩ ++ x ++ ⟨#[32]⟩ ++ y ++ ⟨#[32]⟩ ++ numS fl) ++ (⟨#[32, 114, 105, 115, 107, 32]⟩ ++ numS fr) ++ ⟨#[10]⟩).size ≤ 80 + 60 * (k + 1) := by
            simp only [ByteArray.size_append]
            have h1 : (⟨#[102, 105, 98, 101, 114, 32]⟩ : ByteArray).size = 6 := rfl
            have h2 : (⟨#[32]⟩ : ByteArray).size = 1 := rfl
            have h3 : (⟨#[32, 114, 105, 115, 107, 32]⟩ : ByteArray).size = 6 := rfl
            have h4 : (⟨#[10]⟩ : ByteArray).size = 1 := rfl
            omega
          have HS3 := hid hs2
          clear HO HL0 HNT hs2 hc6 hc1
          go_wp2_with fail
          generalize (wr.alloc (.cells #[.int .i64 (p : Int), .int .i64 (q : Int), .int .i64 fl, .int .i64 fr] 39)) = W1 at *
          have HNUM := hid (fun w' (hw : Cls W1 w') => itoa_any fl w' (HT.out.on (bl_then HS2.out.bl hw)) (by omega))
          refine region_cls (by kernel_rfl) (by kernel_rfl) ?_
          repeat (first
            | ((with_reducible refine quiet_pos ?_ (fun K hK => ?_))
               · rfl
               apply Exists.intro
               refine ⟨fun w' hw' => ?_, ?_⟩
               · go_simp
                 first
                   | with_reducible rfl
                   | go_at_call 32; with_reducible exact hw'.call (HNUM.out _ hw')
               simp only [Act.put, List.setIfInBounds_toArray, List.set_cons_zero, List.set_cons_succ]
               refine hK _ ?_; clear hK K)
            | ((with_reducible refine quiet_neg ?_ (fun K hK => ?_))
               · rfl
               simp only [Act.put, List.setIfInBounds_toArray, List.set_cons_zero, List.set_cons_succ]
               refine hK _ ?_; clear hK K))
          with_reducible refine wpQuiet_nil ?_
          intro wz hwz'
          have r5 := C5 wz hwz'
          have HS4 := hid (HS2.out.step hwz')
          clear C0 C2 C3 C4 C5 C6 C7 HS2 hwz' f0 f1 f2 f3 q0 q1
          go_wp2_with fail
          refine (itoa_any fr _ (HT.out.on HS4.out.bl) (by omega)).mono ?_
          rintro e w6 ⟨rfl, hb6⟩
          have HS5 := hid ((HS4.out.step hb6).drop 1)
          clear HS4 hb6 r5
          go_wp2
          go_roundw
          case rel => first
            | exact ⟨k + 1, _, by omega, by go_num, rfl, HS3.out, HO2, HS5⟩
            | ((repeat apply Exists.intro); exact ⟨⟨k + 1, _, by omega, by go_num, rfl, HS3.out, HO2, HS5⟩, rfl⟩)
          case measure => simp [intOf]; omega
        · have HO2 : Hid ((s ++ (⟨#[102, 105, 98, 101, 114, 32]⟩ ++ x ++ ⟨#[32]⟩ ++ y ++ ⟨#[32]⟩ ++ numS fl) ++ ⟨#[10]⟩).data.toList = ntL xs fs (k + 1)) := by
            unfold Hid
            rw [HNT.out, HL0.out, if_neg hr, ← HO.out]
            simp [numS_list]
          have hs2 : (s ++ (⟨#[102, 105, 98, 101, 114, 32]⟩ ++ x ++ ⟨#[32]⟩ ++ y ++ ⟨#[32]⟩ ++ numS fl) ++ ⟨#[10]⟩).size ≤ 80 + 60 * (k + 1) := by
            simp only [ByteArray.size_append]
            have h1 : (⟨#[102, 105, 98, 101, 114, 32]⟩ : ByteArray).size = 6 := rfl
            have h2 : (⟨#[32]⟩ : ByteArray).size = 1 := rfl
            have h4 : (⟨#[10]⟩ : ByteArray).size = 1 := rfl
            omega
          have HS3 := hid hs2
          clear HO HL0 HNT hs2 hc6 hc1
          go_wp2_with fail
          generalize (wr.alloc (.cells #[.int .i64 (p : Int), .int .i64 (q : Int), .int .i64 fl, .int .i64 fr] 39)) = W1 at *
          have HNUM := hid (fun w' (hw : Cls W1 w') => itoa_any fl w' (HT.out.on (bl_then HS2.out.bl hw)) (by omega))
          refine region_cls (by kernel_rfl) (by kernel_rfl) ?_
          repeat (first
            | ((with_reducible refine quiet_pos ?_ (fun K hK => ?_))
               · rfl
               apply Exists.intro
               refine ⟨fun w' hw' => ?_, ?_⟩
               · go_simp
                 first
                   | with_reducible rfl
                   | go_at_call 32; with_reducible exact hw'.call (HNUM.out _ hw')
               simp only [Act.put, List.setIfInBounds_toArray, List.set_cons_zero, List.set_cons_succ]
               refine hK _ ?_; clear hK K)
            | ((with_reducible refine quiet_neg ?_ (fun K hK => ?_))
               · rfl
               simp only [Act.put, List.setIfInBounds_toArray, List.set_cons_zero, List.set_cons_succ]
               refine hK _ ?_; clear hK K))
          with_reducible refine wpQuiet_nil ?_
          intro wz hwz'
          have r5 := C5 wz hwz'
          have HS4 := hid ((HS2.out.step hwz').drop 1)
          clear C0 C2 C3 C4 C5 C6 C7 HS2 hwz' f0 f1 f2 f3 q0 q1
          go_wp2
          go_roundw
          case rel => first
            | exact ⟨k + 1, _, by omega, by go_num, rfl, HS3.out, HO2, HS4⟩
            | ((repeat apply Exists.intro); exact ⟨⟨k + 1, _, by omega, by go_num, rfl, HS3.out, HO2, HS4⟩, rfl⟩)
          case measure => simp [intOf]; omega
      · have hkm : k = m := by omega
        subst hkm
        have HE : Hid (fnS xs fs = s) := fn_yes HG.out (by rw [HO.out, HLF.out])
        have q0 := HS.out.cell 0 0 rfl rfl
        have q1 := HS.out.cell 0 1 rfl rfl
        clear HO hlt
        go_wp2
        go_ret2
        exact ⟨by rw [HE.out]; rfl, HS.out.bl⟩
end
end Go.Proofs.YtmkgicfgcoeilaaDoor
