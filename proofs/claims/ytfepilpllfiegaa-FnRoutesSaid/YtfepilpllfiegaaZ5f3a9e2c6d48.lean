/- Lemmas and walks that the claim rests on, laid together. Conditions: none. -/
import Derived.Test.YtfepilpllfiegaaZ1096401160fd
import Derived.Test.YtfepilpllfiegaaZ76d3d4a5ee99
import Derived.Test.YtfepilpllfiegaaZc3e33f13110d
import Derived.Deep.LoopGhost
import Derived.Test.YtfepilpllfiegaaRows
import Derived.Test.YtfepilpllfiegaaZc731a5b1582e
import Derived.Test.YtfepilpllfiegaaZ17f740c013a7
/- What the laws draw: a route. Conditions: at most 1048576 bytes to draw from. By drawr.py. -/
namespace Go.Proofs.Ytfepilpllfiegaa
open Go.RowKit
/-- Two rows of a ledger as a network. -/
theorem Led.netOf {w0 w : World} {L : List Thing} {B E : Option Addr} {p cb m d : Nat} {xs : List ByteArray} {fs : List Fib} {b1 b2 : Nat} (h : Led w0 w L) (i j : Nat) (hi : L[i]? = some (tOwns elFib b1 62 (.slice E m d) fs)) (hj : L[j]? = some (tOwns elStr b2 9 (.slice B p cb) xs))
    (hx : xs.length = p) (hf : fs.length = m) (hp : p ≤ 10) (hm : m ≤ 15) (hs : ∀ x ∈ xs, x.size ≤ 9) : NetIs w B p cb E m d xs fs := by
  subst hx; subst hf
  obtain ⟨A1, c1, e1, l1⟩ := h.form j hj
  obtain ⟨A2, c2, e2, l2⟩ := h.form i hi
  injection e1 with _ _ e1
  injection e2 with _ _ e2
  subst e1; subst e2
  exact ⟨⟨l1, by omega⟩, ⟨l2, by omega⟩, h.sees j hj rfl, h.sees i hi rfl, fun x hx => by have := hs x hx; unfold maxLen; omega⟩
/-- What a call that draws a route gives. -/
def routeP (w0 : World) (mx : Nat) (Q : List Thing) (e : Ending) (w' : World) : Prop :=
  ∃ (s : Int) (V : Option Addr) (c : Nat) (ids : List Int), e = .returned (.agg #[.int .i64 s, .slice V ids.length c]) ∧ ids.length ≤ mx ∧ Led w0 w' (tOwns elInt w0.heap.size 3 (.slice V ids.length c) ids :: Q)
theorem routeP.mk {w0 w' : World} {mx : Nat} {Q : List Thing} {s : Int} {V : Option Addr} {c : Nat} {ids : List Int} (hm : ids.length ≤ mx) (h : Led w0 w' (tOwns elInt w0.heap.size 3 (.slice V ids.length c) ids :: Q)) : routeP w0 mx Q (.returned (.agg #[.int .i64 s, .slice V ids.length c])) w' := ⟨s, V, c, ids, rfl, hm, h⟩
section
variable {w0 w : World} {R : List Thing} {A : Option Addr} {n c g K : Nat} {bs : List Int} {B E : Option Addr} {p cb m d b1 b2 : Nat} {xs : List ByteArray} {fs : List Fib}
set_option maxHeartbeats 400000 in
set_option maxRecDepth 100000 in
theorem route_led (h : Led w0 w (tCur A n c g K :: tOwns elFib b1 62 (.slice E m d) fs :: tOwns elStr b2 9 (.slice B p cb) xs :: R)) (hb : Sees elU w0 w0.heap.size A n bs) (hbs : ∀ x ∈ bs, 0 ≤ x ∧ x ≤ 255) (hn : n ≤ 1048576) (hK : K + 2000 ≤ 1099511627776)
    (hx : xs.length = p) (hf : fs.length = m) (hp : 2 ≤ p ∧ p ≤ 10) (hm : m ≤ 15) (hs : ∀ x ∈ xs, x.size ≤ 9) :
    Calls Try.prog 141 #[.pointer (some ⟨g, 0, none⟩), .agg #[.slice B p cb, .slice E m d]] w (routeP w0 4 (tCur A n c g (K + 1000) :: tOwns elFib b1 62 (.slice E m d) fs :: tOwns elStr b2 9 (.slice B p cb) xs :: R)) := by
  have H0 := hid ((h.blk_ w.heap.size rfl 27 #[.slice B p cb, .slice E m d]).blk_ (w.heap.size + 1) (by simp) 35 #[.int .i64 0, .slice none 0 0])
  have HB := hid hb
  have HBS := hid hbs
  have HXL := hid hx
  have HFL := hid hf
  have HSH := hid hs
  obtain ⟨i0, hi, hz0, hz1, hz2⟩ := info_parts int_info
  have q0 := H0.out.cell 1 0 rfl rfl
  clear h hb hbs hx hf hs
  go_enter Try.func141, Try.ntmps141
  go_wp2_with fail
  refine (pick_led H0.out 2 rfl HB.out HBS.out hn (by omega) (p : Int) (by omega) (by omega)).mono ?_
  rintro e w1 ⟨fv, rfl, hf0, hf1, h1⟩
  have H1 := hid (((h1.blk_ w1.heap.size rfl 35 #[.int .i64 fv, .slice none 0 0]).nilS elInt 3 w0.heap.size).single elInt fv 3 (w1.heap.size + 1) (by simp) w0.heap.size (by have := h1.bl.size; omega))
  clear h1 hf1 H0 q0
  -- ledger: [seen, rrow, rr, rbox, nbox, cur, fib, str | R]
  go_wp2_with fail
  refine (pick_led H1.out 5 rfl HB.out HBS.out hn (by omega) 4 (by decide) (by decide)).mono ?_
  rintro e w2 ⟨mv, rfl, hm0, hm1, h2⟩
  have hm2 := hm1 (by decide)
  have H2 := hid h2
  obtain ⟨tv, htv⟩ : ∃ tv : Nat, 1 + mv = (tv : Int) := ⟨(1 + mv).toNat, by omega⟩
  have iw : IntKind.i64.wrap (1 + mv) = (tv : Int) := by rw [IntWalk.i64_in _ (by omega)]; exact htv
  have htl : tv ≤ 4 := by omega
  clear h2 H1 hm1 htv
  go_wp2_with fail
  go_loopw [7, 8] (fun v7 v8 wr => ∃ (t K' : Nat) (sl ids : List Int) (vR : Value), v8 = .int .i64 t ∧ sl.length = ids.length + 1 ∧ ids.length + t ≤ 4 ∧ K' + 10 * t ≤ K + 100 ∧ Hid (Led w0 wr (tOwns elInt w0.heap.size 3 v7 sl :: tOwns elInt w0.heap.size 3 vR ids :: tBlk w1.heap.size 35 #[.int .i64 fv, vR] :: tBlk (w.heap.size + 1) 35 #[.int .i64 0, .slice none 0 0] :: tBlk w.heap.size 27 #[.slice B p cb, .slice E m d] :: tCur A n c g K' :: tOwns elFib b1 62 (.slice E m d) fs :: tOwns elStr b2 9 (.slice B p cb) xs :: R))) (fun _ v8 _ => (intOf v8).toNat)
  case atStart => exact ⟨tv, _, [fv], [], _, rfl, rfl, by simp; omega, by omega, H2⟩
  case round =>
    clear H2 iw
    obtain ⟨t, K', sl, ids, vR, rfl, hsl, hit, hK', HS⟩ := hrel
    obtain ⟨V7, c7, rfl, _⟩ := HS.out.form 0 rfl
    obtain ⟨VR, cR, rfl, _⟩ := HS.out.form 1 rfl
    obtain ⟨ln, hln⟩ : ∃ ln, ln = sl.length := ⟨_, rfl⟩
    rw [← hln] at HS hsl ⊢
    have HLN : Hid (sl.length = ln) := hln.symm
    have hln1 : 1 ≤ ln ∧ ln ≤ 5 := by omega
    have HSL := hid hsl
    clear hln hsl
    by_cases hlt : (t : Int) > 0
    · have H3 := hid (HS.out.empty elInt 3 wr.heap.size rfl w0.heap.size HS.out.bl.size)
      clear HS
      obtain ⟨gS, cS, hv⟩ := H3.out.row_ 1 rfl HLN.out (by omega)
      injection hv with hv1 _ hv3
      subst hv1; subst hv3
      obtain ⟨l1, hl1⟩ : ∃ l1, l1 + 1 = ln := ⟨ln - 1, by omega⟩
      have iwl : IntKind.i64.wrap ((ln : Int) - 1) = (l1 : Int) := by rw [IntWalk.i64_in _ (by omega)]; omega
      have il1 : (l1 : Int) < (ln : Int) := by omega
      have il2 : l1 < ln := by omega
      have il0 : (0 : Int) ≤ (l1 : Int) := by omega
      have HLAST : Hid (∃ xl, sl[l1]? = some xl) := ⟨sl[l1]'(by rw [HLN.out]; exact il2), List.getElem?_eq_getElem _⟩
      obtain ⟨xl, hxl⟩ := HLAST.out
      have HXL2 := hid hxl
      clear hl1 hxl HLAST
      go_wp2_with fail
      go_loopw [9, 10] (fun v9 v10 wr => ∃ (q : Nat) (ll : List Int), q ≤ m ∧ v10 = .int .i64 q ∧ ll.length ≤ q ∧ Hid (∀ x ∈ ll, 0 ≤ x ∧ x < (m : Int)) ∧ Hid (Led w0 wr (tOwns elInt w0.heap.size 3 v9 ll :: tOwns elInt w0.heap.size 3 (.slice (some ⟨gS, 0, none⟩) ln c7) sl :: tOwns elInt w0.heap.size 3 (.slice VR ids.length cR) ids :: tBlk w1.heap.size 35 #[.int .i64 fv, .slice VR ids.length cR] :: tBlk (w.heap.size + 1) 35 #[.int .i64 0, .slice none 0 0] :: tBlk w.heap.size 27 #[.slice B p cb, .slice E m d] :: tCur A n c g K' :: tOwns elFib b1 62 (.slice E m d) fs :: tOwns elStr b2 9 (.slice B p cb) xs :: R))) (fun _ v10 _ => m - (intOf v10).toNat)
      case atStart => exact ⟨0, [], Nat.zero_le _, rfl, Nat.zero_le _, (fun x hx => by cases hx), H3⟩
      case round =>
        clear H3
        obtain ⟨q, ll, hq, rfl, hll, HLL, HS⟩ := hrel
        obtain ⟨V9, c9, rfl, _⟩ := HS.out.form 0 rfl
        have q0 := HS.out.cell 5 0 rfl rfl
        have q1 := HS.out.cell 5 1 rfl rfl
        have HNW := hid (HS.out.netOf 7 8 rfl rfl HXL.out HFL.out hp.2 hm HSH.out)
        have xc := (HS.out.sees (E := elInt) 1 rfl HLN.out.symm).cell HXL2.out (j := 0) rfl
        simp only [elInt, Nat.zero_add, Nat.mul_one, Nat.add_zero] at xc
        by_cases hql : q < m
        · have iq : (q : Int) < (m : Int) := by omega
          have iq0 : (0 : Int) ≤ (q : Int) := by omega
          obtain ⟨f, hfq⟩ := get_of (k := q) HFL.out hql
          have HOT := hid (fun w' (h : Cls wr w') => l2Other_any (q : Int) xl w' (HNW.out.grow h) (f := f) iq0 iq (by rw [Int.toNat_natCast]; exact hfq))
          obtain ⟨nx, hnx⟩ : ∃ nx, nx = otherF f xl := ⟨_, rfl⟩
          rw [← hnx] at HOT
          have D0 : ∀ w', Cls wr w' → w'.cell? ⟨w.heap.size, 0, none⟩ = some (.slice B p cb) := fun _ h => h.cell q0
          have D1 : ∀ w', Cls wr w' → w'.cell? ⟨w.heap.size, 1, none⟩ = some (.slice E m d) := fun _ h => h.cell q1
          have D2 : ∀ w', Cls wr w' → w'.cell? ⟨gS, l1, none⟩ = some (.int .i64 xl) := fun _ h => h.cell xc
          clear hnx hfq xc HNW
          go_wp2_with fail
          refine region_cls (by kernel_rfl) (by kernel_rfl) ?_
          repeat (first
            | ((with_reducible refine quiet_pos ?_ (fun K hK => ?_))
               · rfl
               apply Exists.intro
               refine ⟨fun w' hw' => ?_, ?_⟩
               · go_simp
                 first
                   | with_reducible rfl
                   | (go_at_call 79; exact hw'.call (HOT.out _ hw'))
               simp only [Act.put, List.setIfInBounds_toArray, List.set_cons_zero, List.set_cons_succ]
               refine hK _ ?_; clear hK K)
            | ((with_reducible refine quiet_neg ?_ (fun K hK => ?_))
               · rfl
               simp only [Act.put, List.setIfInBounds_toArray, List.set_cons_zero, List.set_cons_succ]
               refine hK _ ?_; clear hK K))
          with_reducible refine wpQuiet_nil ?_
          intro wz hwz'
          have HS1 := hid (HS.out.step hwz')
          have HSee := hid (HS1.out.sees (E := elInt) 1 rfl HLN.out.symm)
          clear HS D0 D1 D2 hwz' HOT q0 q1
          by_cases hnn : nx ≥ 0
          · have HH := hid (l1Has_any (c := c7) nx _ HSee.out (by unfold maxLen; omega))
            obtain ⟨bb, hbb⟩ : ∃ bb, bb = hasB sl nx := ⟨_, rfl⟩
            rw [← hbb] at HH
            clear hbb
            go_wp2_with fail
            refine HH.out.mono ?_
            rintro e w4 ⟨rfl, rfl⟩
            have HL := hid hll
            clear HH HSee hll
            cases bb
            · have H4 := hid (HS1.out.blk_ wz.heap.size rfl 3 #[.int .i64 (q : Int)])
              go_wp2_with (first
                | (at_builtin; refine wpList_append_led rfl _ _ 33 rfl H4.out 1 rfl Try.underlying33 hi hz0 hz1 (by rw [hz2]; decide) rfl rfl rfl (show Sees elInt _ _ _ 1 [(q : Int)] from sees_new elInt _ _ _ _ rfl) (by have := HL.out; omega) H4.out.bl.size ?_)
                | go_in)
              intro A5 c5 w5 h5
              have H5 := hid (h5.drop 1)
              have hl5 : (ll ++ [(q : Int)]).length ≤ q + 1 := by rw [List.length_append]; have := HL.out; simp; omega
              have HL5 : Hid (∀ x ∈ ll ++ [(q : Int)], 0 ≤ x ∧ x < (m : Int)) := fun x hx => by
                rcases List.mem_append.1 hx with hx | hx
                · exact HLL.out x hx
                · rw [List.mem_singleton.1 hx]; omega
              clear h5 H4 HS1
              go_wp2
              go_roundw
              case rel => first
                | exact ⟨q + 1, _, by omega, by go_num, hl5, HL5, H5⟩
                | ((repeat apply Exists.intro); exact ⟨⟨q + 1, _, by omega, by go_num, hl5, HL5, H5⟩, rfl⟩)
              case measure => simp [intOf]; omega
            · go_wp2
              go_roundw
              case rel => exact ⟨q + 1, ll, by omega, by go_num, by have := HL.out; omega, HLL, HS1⟩
              case measure => simp [intOf]; omega
          · go_wp2
            go_roundw
            case rel => exact ⟨q + 1, ll, by omega, by go_num, by omega, HLL, HS1⟩
            case measure => simp [intOf]; omega
        · have iq : ¬ ((q : Int) < (m : Int)) := by omega
          by_cases hl0 : ll.length = 0
          · have ie : ((ll.length : Int) == 0) = true := by rw [hl0]; rfl
            have r0 := HS.out.cell 3 0 rfl rfl
            have r1 := HS.out.cell 3 1 rfl rfl
            have y0 := HS.out.cell 4 0 rfl rfl
            have y1 := HS.out.cell 4 1 rfl rfl
            have t0 := HS.out.frozen 4 0 rfl
            have t1 := HS.out.frozen 4 1 rfl
            have HE := hid ((Led.del1 (Led.del1 (Led.del1 (((HS.out.set 4 rfl 0 (.int .i64 fv)).set 4 rfl 1 (.slice VR ids.length cR)).drop 2)))).curUp (K' := K + 1000) 1 rfl (by omega))
            have hl4 : ids.length ≤ 4 := by omega
            clear hl0 HS HNW
            go_wp2_with fail
            exact bodyPost_ret (v := .agg #[.int .i64 fv, .slice VR ids.length cR]) (by simp [results, Try.results141, go_sem, y0, y1]) rfl (routeP.mk hl4 HE.out)
          · have ie : ((ll.length : Int) == 0) = false := by rw [beq_eq_false_iff_ne]; omega
            obtain ⟨n9, hn9⟩ : ∃ n9, n9 = ll.length := ⟨_, rfl⟩
            rw [← hn9] at HS ie hll hl0 ⊢
            have HN9 : Hid (ll.length = n9) := hn9.symm
            clear hn9
            obtain ⟨g9, c8, hv⟩ := HS.out.row_ 0 rfl HN9.out (by omega)
            injection hv with hv1 _ hv3
            subst hv1; subst hv3
            clear HNW xc
            go_wp2_with fail
            refine (pick_led HS.out 6 rfl HB.out HBS.out hn (by omega) (n9 : Int) (by omega) (by omega)).mono ?_
            rintro e w4 ⟨pv, rfl, hp0, hp1, h4⟩
            have hp2 := hp1 (by omega)
            obtain ⟨pn, rfl⟩ : ∃ pn : Nat, pv = (pn : Int) := ⟨pv.toNat, by omega⟩
            have ipn : pn < n9 := by omega
            obtain ⟨iv, hiv⟩ : ∃ iv, ll[pn]? = some iv := ⟨ll[pn]'(by rw [HN9.out]; exact ipn), List.getElem?_eq_getElem _⟩
            have hib := HLL.out iv (List.mem_of_getElem? hiv)
            have ic := (h4.sees (E := elInt) 0 rfl HN9.out.symm).cell hiv (j := 0) rfl
            simp only [elInt, Nat.zero_add, Nat.mul_one, Nat.add_zero] at ic
            have r1 := h4.cell 3 1 rfl rfl
            have H4 := hid ((h4.drop 1).blk_ w4.heap.size rfl 3 #[.int .i64 iv])
            -- ledger: [one, seen, rrow, rr, rbox, nbox, cur, fib, str | R]
            clear hp1 h4 hiv HS
            go_wp2_with (first
              | (at_builtin; refine wpList_append_led rfl _ _ 33 rfl H4.out 2 rfl Try.underlying33 hi hz0 hz1 (by rw [hz2]; decide) rfl rfl rfl (show Sees elInt _ _ _ 1 [iv] from sees_new elInt _ _ _ _ rfl) (by omega) H4.out.bl.size ?_)
              | go_in)
            intro A5 c5 w5 h5
            have hE0 : (ids ++ [iv]).length = ids.length + 1 := by simp
            obtain ⟨ids2, hids2⟩ : ∃ ids2, ids2 = ids ++ [iv] := ⟨_, rfl⟩
            rw [← hids2] at h5 hE0
            have s1 := h5.cell 3 1 rfl rfl
            have z1 := h5.frozen 3 1 rfl
            have h6 := (h5.set 3 rfl 1 (.slice A5 (ids.length + 1) c5)).drop 1
            have HID2 := hid hE0
            -- ledger: [seen, rrow, rr, rbox, nbox, cur, fib, str | R]
            have H6 := hid h6
            clear h5 H4 ic r1 hids2 hE0
            go_wp2_with fail
            have q0 := H6.out.cell 4 0 rfl rfl
            have q1 := H6.out.cell 4 1 rfl rfl
            have xc := (H6.out.sees (E := elInt) 0 rfl HLN.out.symm).cell HXL2.out (j := 0) rfl
            simp only [elInt, Nat.zero_add, Nat.mul_one, Nat.add_zero] at xc
            have HNW := hid (H6.out.netOf 6 7 rfl rfl HXL.out HFL.out hp.2 hm HSH.out)
            clear h6 s1 z1
            generalize w5.setCell ⟨w1.heap.size, 1, none⟩ (.slice A5 (ids.length + 1) c5) = WZ at *
            obtain ⟨f, hfq⟩ : ∃ f, fs[iv.toNat]? = some f := ⟨fs[iv.toNat]'(by rw [HFL.out]; omega), List.getElem?_eq_getElem _⟩
            have HOT := hid (fun w' (h : Cls WZ w') => l2Other_any iv xl w' (HNW.out.grow h) (f := f) hib.1 hib.2 hfq)
            obtain ⟨nx, hnx⟩ : ∃ nx, nx = otherF f xl := ⟨_, rfl⟩
            rw [← hnx] at HOT
            clear hnx hfq HNW
            refine wp_region_held_drew (S := fun w' => w'.cell? ⟨w.heap.size, 0, none⟩ = some (.slice B p cb) ∧ w'.cell? ⟨w.heap.size, 1, none⟩ = some (.slice E m d)) (by kernel_rfl) (⟨q0, q1⟩) (fun hHeld => ?_)
            refine wpAnyH_take (i := 0) (oi := _) (v := ?_) rfl (by kernel_rfl) (by kernel_rfl) (by kernel_rfl) (fun _ _ _ h => h) (Or.inl ⟨by rfl, ?_⟩) (by assumption) ?_
            rotate_left
            · intro w hSw; go_simp; with_reducible rfl
            simp only [Act.put, List.getElem_toArray, List.getElem_cons_zero, List.setIfInBounds_toArray, List.set_cons_zero, List.set_cons_succ]
            refine wpAnyH_take (i := 1) (oi := _) (v := ?_) rfl (by kernel_rfl) (by kernel_rfl) (by kernel_rfl) (fun _ _ _ h => h) (Or.inl ⟨by rfl, ?_⟩) (by assumption) ?_
            rotate_left
            · intro w hSw; go_simp; with_reducible rfl
            simp only [Act.put, List.getElem_toArray, List.getElem_cons_zero, List.getElem_cons_succ, List.setIfInBounds_toArray, List.set_cons_zero, List.set_cons_succ]
            refine wpAnyH_take (i := 2) (oi := _) (v := ?_) rfl (by kernel_rfl) (by kernel_rfl) (by kernel_rfl) (fun _ _ _ h => h) (Or.inl ⟨by rfl, ?_⟩) (by assumption) ?_
            rotate_left
            · intro w hSw; go_simp; with_reducible rfl
            simp only [Act.put, List.getElem_toArray, List.getElem_cons_zero, List.getElem_cons_succ, List.setIfInBounds_toArray, List.set_cons_zero, List.set_cons_succ]
            refine wpAnyH_take (i := 3) (oi := _) (v := ?_) rfl (by kernel_rfl) (by kernel_rfl) (by kernel_rfl) (fun _ _ _ h => h) (Or.inl ⟨by rfl, ?_⟩) (by assumption) ?_
            rotate_left
            · intro w hSw; go_simp; with_reducible rfl
            simp only [Act.put, List.getElem_toArray, List.getElem_cons_zero, List.getElem_cons_succ, List.setIfInBounds_toArray, List.set_cons_zero, List.set_cons_succ]
            refine wpAnyH_take (i := 4) (oi := _) (v := ?_) rfl (by kernel_rfl) (by kernel_rfl) (by kernel_rfl) (fun _ _ _ h => h) (Or.inl ⟨by rfl, ?_⟩) (by assumption) ?_
            rotate_left
            · intro w hSw; go_simp; with_reducible rfl
            simp only [Act.put, List.getElem_toArray, List.getElem_cons_zero, List.getElem_cons_succ, List.setIfInBounds_toArray, List.set_cons_zero, List.set_cons_succ]
            refine wpAnyH_take (i := 5) (oi := _) (v := ?_) rfl (by kernel_rfl) (by kernel_rfl) (by kernel_rfl) (fun _ _ _ h => h) (Or.inl ⟨by rfl, ?_⟩) (by assumption) ?_
            rotate_left
            · intro w hSw; go_simp; with_reducible rfl
            simp only [Act.put, List.getElem_toArray, List.getElem_cons_zero, List.getElem_cons_succ, List.setIfInBounds_toArray, List.set_cons_zero, List.set_cons_succ]
            refine wpAnyH_take (i := 6) (oi := _) (v := ?_) rfl (by kernel_rfl) (by kernel_rfl) (by kernel_rfl) (fun _ _ _ h => h) (Or.inl ⟨by rfl, ?_⟩) (by assumption) ?_
            rotate_left
            · intro w hSw; go_simp; with_reducible rfl
            simp only [Act.put, List.getElem_toArray, List.getElem_cons_zero, List.getElem_cons_succ, List.setIfInBounds_toArray, List.set_cons_zero, List.set_cons_succ]
            refine wpAnyH_take (i := 7) (oi := _) (v := ?_) rfl (by kernel_rfl) (by kernel_rfl) (by kernel_rfl) (fun _ _ _ h => h) (Or.inl ⟨by rfl, ?_⟩) (by assumption) ?_
            rotate_left
            · intro w hSw; go_simp; with_reducible rfl
            simp only [Act.put, List.getElem_toArray, List.getElem_cons_zero, List.getElem_cons_succ, List.setIfInBounds_toArray, List.set_cons_zero, List.set_cons_succ]
            refine wpAnyH_ready (rs := [8]) (by kernel_rfl) (by simp) ?_
            refine AllReadyH.cons rfl (fun K hK => ?_) AllReadyH.nil
            go_simp
            go_wp2_with fail
            refine hK.out _ _ (⟨q0, q1⟩) (fun hHeld => ?_)
            clear hK K
            try simp only [Act.put, List.getElem_toArray, List.getElem_cons_zero, List.getElem_cons_succ, List.setIfInBounds_toArray, List.set_cons_zero, List.set_cons_succ]
            refine wpAnyH_ready (rs := [9]) (by kernel_rfl) (by simp) ?_
            refine AllReadyH.cons rfl (fun K hK => ?_) AllReadyH.nil
            have hd := H6.out.step (Cls.drew _)
            go_simp
            refine (HOT.out _ (Cls.drew _)).mono ?_
            rintro e w7 ⟨rfl, hb7⟩
            have h7 := hd.step hb7
            go_wp2_with fail
            refine hK.out _ _ (⟨h7.cell 4 0 rfl rfl, h7.cell 4 1 rfl rfl⟩) (fun hHeld => ?_)
            clear hK K
            try simp only [Act.put, List.getElem_toArray, List.getElem_cons_zero, List.getElem_cons_succ, List.setIfInBounds_toArray, List.set_cons_zero, List.set_cons_succ]
            refine wpAnyH_ready (rs := [10]) (by kernel_rfl) (by simp) ?_
            refine AllReadyH.cons rfl (fun K hK => ?_) AllReadyH.nil
            have h8 := h7.blk_ w7.heap.size rfl 3 #[.int .i64 nx]
            go_simp
            go_wp2_with fail
            refine hK.out _ _ (⟨h8.cell 5 0 rfl rfl, h8.cell 5 1 rfl rfl⟩) (fun hHeld => ?_)
            clear hK K
            try simp only [Act.put, List.getElem_toArray, List.getElem_cons_zero, List.getElem_cons_succ, List.setIfInBounds_toArray, List.set_cons_zero, List.set_cons_succ]
            refine wpAnyH_ready (rs := [11]) (by kernel_rfl) (by simp) ?_
            refine AllReadyH.cons rfl (fun K hK => ?_) AllReadyH.nil
            refine step_append_led rfl _ _ 33 rfl h8 1 rfl Try.underlying33 hi hz0 hz1 (by rw [hz2]; decide) rfl rfl rfl (show Sees elInt _ _ _ 1 [nx] from sees_new elInt _ _ _ _ rfl) (by have := HLN.out; omega) h8.bl.size ?_
            intro A9 c10 w9 h9
            refine hK.out _ _ (⟨h9.cell 5 0 rfl rfl, h9.cell 5 1 rfl rfl⟩) (fun hHeld => ?_)
            clear hK K
            try simp only [Act.put, List.getElem_toArray, List.getElem_cons_zero, List.getElem_cons_succ, List.setIfInBounds_toArray, List.set_cons_zero, List.set_cons_succ]
            refine wpAnyH_take (i := 12) (oi := _) (v := ?_) rfl (by kernel_rfl) (by kernel_rfl) (by kernel_rfl) (fun _ _ _ h => h) (Or.inl ⟨by rfl, ?_⟩) (by assumption) ?_
            rotate_left
            · intro w hSw; go_simp; with_reducible rfl
            simp only [Act.put, List.getElem_toArray, List.getElem_cons_zero, List.getElem_cons_succ, List.setIfInBounds_toArray, List.set_cons_zero, List.set_cons_succ]
            refine wpAnyH_done (by kernel_rfl) ?_ _
            have H9 := hid (h9.drop 1)
            have hl9 : (sl ++ [nx]).length = ids2.length + 1 := by rw [List.length_append, HID2.out, ← HSL.out, HLN.out]; rfl
            have hi9 : ids2.length + (t - 1) ≤ 4 := by rw [HID2.out]; omega
            have HL9 := hid hl9
            clear h9 h8 h7 hd hb7 H6 HOT hHeld q0 q1 xc hl9
            go_wp2
            go_roundw
            case rel => first
              | exact ⟨t - 1, _, _, ids2, _, by go_num, HL9.out, hi9, by omega, H9⟩
              | ((repeat apply Exists.intro); exact ⟨⟨t - 1, _, _, ids2, _, by go_num, HL9.out, hi9, by omega, H9⟩, rfl⟩)
            case measure => simp [intOf]; omega
    · have hr0 : ¬ ((t : Int) > 0) := hlt
      have r0 := HS.out.cell 2 0 rfl rfl
      have r1 := HS.out.cell 2 1 rfl rfl
      have y0 := HS.out.cell 3 0 rfl rfl
      have y1 := HS.out.cell 3 1 rfl rfl
      have t0 := HS.out.frozen 3 0 rfl
      have t1 := HS.out.frozen 3 1 rfl
      have HE := hid ((Led.del1 (Led.del1 (Led.del1 (((HS.out.set 3 rfl 0 (.int .i64 fv)).set 3 rfl 1 (.slice VR ids.length cR)).drop 1)))).curUp (K' := K + 1000) 1 rfl (by omega))
      have hl4 : ids.length ≤ 4 := by omega
      clear HS
      go_wp2_with fail
      exact bodyPost_ret (v := .agg #[.int .i64 fv, .slice VR ids.length cR]) (by simp [results, Try.results141, go_sem, y0, y1]) rfl (routeP.mk hl4 HE.out)
end
end Go.Proofs.Ytfepilpllfiegaa
/- OtherEnd of the program and of the reference, walked. Conditions: none. -/
namespace Go.Proofs.Ytfepilpllfiegaa
open Go.RowKit
instance : Inhabited ByteArray := ⟨ByteArray.empty⟩
def oeF (fs : List Fib) (i v : Int) : Int := otherF (fs.getD i.toNat default) v
def oeB (xs : List ByteArray) (fs : List Fib) (i v : Int) : Bool := goodB xs fs && inB 0 ((fs.length : Int) - 1) i && !decide (oeF fs i v < 0)
def oeI (xs : List ByteArray) (fs : List Fib) (i v : Int) : Int := if oeB xs fs i v then oeF fs i v else 0
section
variable {n c m d : Nat} {A A' : Option Addr} {xs : List ByteArray} {fs : List Fib}
set_option maxRecDepth 100000 in
theorem isFiber_any (i : Int) (w : World) (h : NetIs w A n c A' m d xs fs) :
    Calls Try.prog 109 #[.agg #[.slice A n c, .slice A' m d], .int .i64 i] w fun e w' => e = .returned (.bool (goodB xs fs && inB 0 ((m : Int) - 1) i)) ∧ Below w.heap.size w w' := by
  have hb0 := bl_alloc (Below.refl w.heap.size w) (.cells #[.slice A n c, .slice A' m d] 27)
  have hx0 : Blk (w.alloc (.cells #[.slice A n c, .slice A' m d] 27)) w.heap.size 27 #[.slice A n c, .slice A' m d] := Blk.new _ _ _
  have h0 := h.grow hb0
  have hm := h.mle
  cases g : goodB xs fs
  · go_enter Try.func109, Try.ntmps109
    go_wp2_with fail
    refine (validN _ h0).mono ?_
    rintro e w2 ⟨rfl, hb2⟩
    rw [g]
    go_wp2_with fail
    go_ret
    exact ⟨rfl, bl_then hb0 hb2⟩
  · go_enter Try.func109, Try.ntmps109
    go_wp2_with fail
    refine (validN _ h0).mono ?_
    rintro e w2 ⟨rfl, hb2⟩
    rw [g]
    have q1 := (hx0.below hb2 hx0.lt).cell 1
    simp at q1
    go_wp2_with fail
    refine (within_any _ _ _ _).mono ?_
    rintro e w3 ⟨rfl, rfl⟩
    go_wp2_with fail
    go_ret
    exact ⟨rfl, bl_then hb0 hb2⟩
theorem inB_idx {i : Int} {m : Nat} (h : inB 0 ((m : Int) - 1) i = true) : 0 ≤ i ∧ i < m := by unfold inB at h; simp at h; omega
end
end Go.Proofs.Ytfepilpllfiegaa
/- l4Walk and visited: the nodes of a route, walked. Conditions: none. -/
namespace Go.Proofs.Ytfepilpllfiegaa
open Go.RowKit
theorem filled_one (s : Int) : Filled elInt #[.int .i64 s] [s] 1 := by
  intro j x hj hx i u hu
  obtain rfl : j = 0 := by omega
  simp at hx; subst hx
  match i, hu with
  | 0, hu => simp [elInt] at hu; subst hu; rfl
variable {n c m d kr er : Nat} {A A' R : Option Addr} {xs : List ByteArray} {fs : List Fib} {ids : List Int}
set_option maxHeartbeats 600000 in
set_option maxRecDepth 100000 in
theorem l4Walk_any (s : Int) (w : World) (h : NetIs w A n c A' m d xs fs) (hr : RtIs w R kr er ids) :
    Calls Try.prog 142 #[.agg #[.slice A n c, .slice A' m d], .agg #[.int .i64 s, .slice R kr er]] w fun e w' => ∃ v, e = .returned (.tuple #[v, .bool (rtB n fs s ids)]) ∧ (rtB n fs s ids = true → Owns elInt w' w.heap.size 3 v (outW fs s ids kr)) ∧ Below w.heap.size w w' := by
  obtain ⟨i0, hi, hz0, hz1, hz2⟩ := info_parts int_info
  have hb1 := bl_alloc (Below.refl w.heap.size w) (.cells #[.slice A n c, .slice A' m d] 27)
  have hb0 := bl_alloc hb1 (.cells #[.int .i64 s, .slice R kr er] 35)
  have hx0 : Blk ((w.alloc (.cells #[.slice A n c, .slice A' m d] 27)).alloc (.cells #[.int .i64 s, .slice R kr er] 35)) w.heap.size 27 #[.slice A n c, .slice A' m d] := (Blk.new _ _ _).alloc _
  have hy0 : Blk ((w.alloc (.cells #[.slice A n c, .slice A' m d] 27)).alloc (.cells #[.int .i64 s, .slice R kr er] 35)) (w.heap.size + 1) 35 #[.int .i64 s, .slice R kr er] := by
    have := Blk.new (w.alloc (.cells #[.slice A n c, .slice A' m d] 27)) 35 #[.int .i64 s, .slice R kr er]
    simpa using this
  have h0 := h.grow hb0
  have hr0 := hr.grow hb0
  have hlx := h.xlen
  have hlf := h.flen
  have hm := h.mle
  have hn := h.nle
  have hlr := hr.len
  have hkr := hr.le
  have hsz0 : ((w.alloc (.cells #[.slice A n c, .slice A' m d] 27)).alloc (.cells #[.int .i64 s, .slice R kr er] 35)).heap.size = w.heap.size + 2 := by simp
  have hb2 := bl_alloc hb0 (.cells #[.int .i64 s] 3)
  have hbe := bl_alloc (Below.refl ((w.alloc (.cells #[.slice A n c, .slice A' m d] 27)).alloc (.cells #[.int .i64 s, .slice R kr er] 35)).heap.size ((w.alloc (.cells #[.slice A n c, .slice A' m d] 27)).alloc (.cells #[.int .i64 s, .slice R kr er] 35))) (.cells #[.int .i64 s] 3)
  have hoe : Hid (Owns elInt (((w.alloc (.cells #[.slice A n c, .slice A' m d] 27)).alloc (.cells #[.int .i64 s, .slice R kr er] 35)).alloc (.cells #[.int .i64 s] 3)) (w.heap.size + 2) 3 (.slice (some ⟨w.heap.size + 2, 0, none⟩) 1 1) (outW fs s ids 0)) :=
    Owns.of_blk (n := 1) (cap := 1) (cur := #[.int .i64 s]) (by have := Blk.new ((w.alloc (.cells #[.slice A n c, .slice A' m d] 27)).alloc (.cells #[.int .i64 s, .slice R kr er] 35)) 3 #[.int .i64 s]; simpa using this) (Nat.le_refl _) rfl (Nat.le_refl _) rfl (by decide) (filled_one s)
  cases g1 : inB 0 ((n : Int) - 1) s
  · have H : Hid (rtB n fs s ids = false) := by unfold Hid rtB; rw [g1]; rfl
    clear hlx hlf hlr hoe
    go_enter Try.func142, Try.ntmps142
    go_wp2_with (go_at_call 78; refine (l1In_any _ _ _ _).mono ?_; rintro e w' ⟨rfl, rfl⟩; rw [g1])
    go_ret2
    exact ⟨_, by rw [H.out]; rfl, fun hh => by rw [H.out] at hh; (cases hh), hb2⟩
  · by_cases hk0 : kr = 0
    · have H : Hid (rtB n fs s ids = false) := by unfold Hid rtB; rw [g1, hlr, hk0]; rfl
      have e0 : (kr == 0) = true := by simp [hk0]
      have e1 : ((kr : Int) == 0) = true := by simp [hk0]
      clear hlx hlf hlr hoe hk0
      go_enter Try.func142, Try.ntmps142
      go_wp2_with (go_at_call 78; refine (l1In_any _ _ _ _).mono ?_; rintro e w' ⟨rfl, rfl⟩; rw [g1])
      go_ret2
      exact ⟨_, by rw [H.out]; rfl, fun hh => by rw [H.out] at hh; (cases hh), hb2⟩
    · have e0 : (kr == 0) = false := by simp [hk0]
      have e1 : ((kr : Int) == 0) = false := by simp; omega
      have HB : Hid (rtB n fs s ids = allB (okW m fs s ids) kr) := by unfold Hid rtB; rw [g1, hlr, e0, hlf]; rfl
      clear hlx
      go_enter Try.func142, Try.ntmps142
      go_wp2_with (go_at_call 78; refine (l1In_any _ _ _ _).mono ?_; rintro e w' ⟨rfl, rfl⟩; rw [g1])
      generalize hw0 : ((w.alloc (.cells #[.slice A n c, .slice A' m d] 27)).alloc (.cells #[.int .i64 s, .slice R kr er] 35)) = w0 at *
      go_loopw [6, 7] (fun v i wr => ∃ k : Nat, k ≤ kr ∧ i = .int .i64 k ∧ Hid (Owns elInt wr (w.heap.size + 2) 3 v (outW fs s ids k)) ∧ Hid (allTo (okW m fs s ids) k) ∧ Below w0.heap.size w0 wr) (fun _ i _ => kr - (intOf i).toNat)
      case atStart => exact ⟨0, Nat.zero_le _, rfl, hoe, allTo_zero _, hbe⟩
      case round =>
        clear hbe hoe
        obtain ⟨k, hk, rfl, hown, hall, hb⟩ := hrel
        have q1 := (hy0.below hb (by omega)).cell 1
        simp at q1
        by_cases hlt : k < kr
        · obtain ⟨b, o, rfl, _, hc⟩ := hr0.2.at_ hlt
          obtain ⟨i, hik⟩ := get_of (k := k) hlr hlt
          have hci := bl_cell hb (hc k i hik 0 _ rfl)
          simp only [elInt, Nat.mul_one, Nat.add_zero] at hci
          have p0 := (hx0.below hb (by omega)).cell 0
          have p1 := (hx0.below hb (by omega)).cell 1
          simp at p0 p1
          have hwz := hb.size
          have iz : (k : Int) < (kr : Int) := by omega
          have im : IntKind.i64.wrap ((m : Int) - 1) = (m : Int) - 1 := IntWalk.i64_in _ (by omega)
          have ik : IntKind.i64.wrap (k : Int) = (k : Int) := IntWalk.i64_in _ (by omega)
          have ik2 : IntKind.i64.wrap ((k : Int) + 1 - 1) = (k : Int) := by rw [Int.add_sub_cancel]; exact ik
          have ik3 : (k : Int) < (k : Int) + 1 := by omega
          have P0 : ∀ w', Cls wr w' → w'.cell? ⟨w.heap.size, 0, none⟩ = some (.slice A n c) := fun _ h => h.cell p0
          have P1 : ∀ w', Cls wr w' → w'.cell? ⟨w.heap.size, 1, none⟩ = some (.slice A' m d) := fun _ h => h.cell p1
          have Q1 : ∀ w', Cls wr w' → w'.cell? ⟨w.heap.size + 1, 1, none⟩ = some (.slice (some ⟨b, o, none⟩) kr er) := fun _ h => h.cell q1
          have T0 : ∀ w', Cls wr w' → w'.cell? ⟨b, o + k, none⟩ = some (.int .i64 i) := fun _ h => h.cell hci
          clear hc
          cases g2 : inB 0 ((m : Int) - 1) i
          · have H : Hid (rtB n fs s ids = false) := by unfold Hid; rw [HB.out]; exact allB_no hlt (by unfold okW; rw [getD_of hik, g2]; rfl)
            have HIN : Hid (∀ w', Calls Try.prog 78 #[.int .i64 i, .int .i64 0, .int .i64 ((m : Int) - 1)] w' fun e w2 => e = .returned (.bool false) ∧ w' = w2) := fun w' => by rw [← g2]; exact l1In_any _ _ _ _
            clear hik hown hall
            go_wp2
            refine region_cls (by kernel_rfl) (by kernel_rfl) ?_
            repeat (first
              | ((with_reducible refine quiet_pos ?_ (fun K hK => ?_))
                 · rfl
                 apply Exists.intro
                 refine ⟨fun w' hw' => ?_, ?_⟩
                 · go_simp
                   first
                     | with_reducible rfl
                     | (go_at_call 78; with_reducible exact hw'.same (HIN.out _))
                 simp only [Act.put, List.setIfInBounds_toArray, List.set_cons_zero, List.set_cons_succ]
                 refine hK _ ?_; clear hK K)
              | ((with_reducible refine quiet_neg ?_ (fun K hK => ?_))
                 · rfl
                 simp only [Act.put, List.setIfInBounds_toArray, List.set_cons_zero, List.set_cons_succ]
                 refine hK _ ?_; clear hK K))
            with_reducible refine wpQuiet_nil ?_
            intro wx hwx
            go_wp2
            go_ret2
            exact ⟨_, by rw [H.out]; rfl, fun hh => by rw [H.out] at hh; (cases hh), hb0.trans ((bl_then hb hwx).mono (by omega))⟩
          · obtain ⟨i0', i1'⟩ := inB_idx g2
            obtain ⟨f, hf⟩ := get_of (k := i.toNat) hlf (by omega)
            obtain ⟨Ao, co, rfl, _, _, hso⟩ := hown.out.form
            rw [outW_len] at hso
            obtain ⟨bo, oo, rfl, _, hcl⟩ := hso.at_ (k := k) (by omega)
            have hcl0 := hcl k _ (outW_get fs s ids k) 0 _ rfl
            simp only [elInt, Nat.mul_one, Nat.add_zero] at hcl0
            obtain ⟨cu, hcu⟩ : ∃ cu, cu = atW fs s ids k := ⟨_, rfl⟩
            rw [← hcu] at hcl0
            have L0 : ∀ w', Cls wr w' → w'.cell? ⟨bo, oo + k, none⟩ = some (.int .i64 cu) := fun _ h => h.cell hcl0
            obtain ⟨nx, hnx⟩ : ∃ nx, nx = otherF f cu := ⟨_, rfl⟩
            have HNX : Hid (atW fs s ids (k + 1) = nx) := by unfold Hid; rw [hnx, hcu]; exact atW_succ hik hf
            have hkk : Hid (okW m fs s ids k = (!decide (nx < 0) && !hasB (outW fs s ids k) nx)) := by unfold Hid okW; rw [getD_of hik, g2, HNX.out]; rfl
            have HC : Hid (∀ w', Cls wr w' → Calls Try.prog 79 #[.agg #[.slice A n c, .slice A' m d], .int .i64 i, .int .i64 cu] w' fun e w2 => e = .returned (.int .i64 nx) ∧ Below w'.heap.size w' w2) := fun w' hw' => by
              rw [hnx]; exact l2Other_any i cu w' (h0.grow (bl_then hb hw')) i0' i1' hf
            have hso := hid hso
            rw [outW_len]
            have HIN : Hid (∀ w', Calls Try.prog 78 #[.int .i64 i, .int .i64 0, .int .i64 ((m : Int) - 1)] w' fun e w2 => e = .returned (.bool true) ∧ w' = w2) := fun w' => by rw [← g2]; exact l1In_any _ _ _ _
            clear hik hf hcl hcl0 hcu hnx
            go_wp2
            refine region_cls (by kernel_rfl) (by kernel_rfl) ?_
            repeat (first
              | ((with_reducible refine quiet_pos ?_ (fun K hK => ?_))
                 · rfl
                 apply Exists.intro
                 refine ⟨fun w' hw' => ?_, ?_⟩
                 · go_simp
                   first
                     | with_reducible rfl
                     | (go_at_call 78; with_reducible exact hw'.same (HIN.out _))
                 simp only [Act.put, List.setIfInBounds_toArray, List.set_cons_zero, List.set_cons_succ]
                 refine hK _ ?_; clear hK K)
              | ((with_reducible refine quiet_neg ?_ (fun K hK => ?_))
                 · rfl
                 simp only [Act.put, List.setIfInBounds_toArray, List.set_cons_zero, List.set_cons_succ]
                 refine hK _ ?_; clear hK K))
            with_reducible refine wpQuiet_nil ?_
            intro wx hwx
            have hwxs := hwx.size
            have HC2 := hid (fun w' (h : Cls wx w') => HC.out w' (bl_then hwx h))
            clear HC HIN
            replace P0 : ∀ w', Cls wx w' → w'.cell? ⟨w.heap.size, 0, none⟩ = some (.slice A n c) := fun _ h => P0 _ (bl_then hwx h)
            replace P1 : ∀ w', Cls wx w' → w'.cell? ⟨w.heap.size, 1, none⟩ = some (.slice A' m d) := fun _ h => P1 _ (bl_then hwx h)
            replace Q1 : ∀ w', Cls wx w' → w'.cell? ⟨w.heap.size + 1, 1, none⟩ = some (.slice (some ⟨b, o, none⟩) kr er) := fun _ h => Q1 _ (bl_then hwx h)
            replace T0 : ∀ w', Cls wx w' → w'.cell? ⟨b, o + k, none⟩ = some (.int .i64 i) := fun _ h => T0 _ (bl_then hwx h)
            replace L0 : ∀ w', Cls wx w' → w'.cell? ⟨bo, oo + k, none⟩ = some (.int .i64 cu) := fun _ h => L0 _ (bl_then hwx h)
            go_wp2
            refine region_cls (by kernel_rfl) (by kernel_rfl) ?_
            repeat (first
              | ((with_reducible refine quiet_pos ?_ (fun K hK => ?_))
                 · rfl
                 apply Exists.intro
                 refine ⟨fun w' hw' => ?_, ?_⟩
                 · go_simp
                   first
                     | with_reducible rfl
                     | (go_at_call 79; with_reducible exact hw'.call (HC2.out _ hw'))
                 simp only [Act.put, List.setIfInBounds_toArray, List.set_cons_zero, List.set_cons_succ]
                 refine hK _ ?_; clear hK K)
              | ((with_reducible refine quiet_neg ?_ (fun K hK => ?_))
                 · rfl
                 simp only [Act.put, List.setIfInBounds_toArray, List.set_cons_zero, List.set_cons_succ]
                 refine hK _ ?_; clear hK K))
            with_reducible refine wpQuiet_nil ?_
            intro wy hwy
            have hbz := bl_then (bl_then hb hwx) hwy
            have hoz : Hid (Owns elInt _ _ _ _ _) := (hown.out.below hwx).below hwy
            have hwys := hwy.size
            clear P0 P1 Q1 T0 L0 HC2 hown
            cases g3 : decide (nx < 0)
            · have hsz := hid ((hso.out.grow hwx).grow hwy)
              cases g4 : hasB (outW fs s ids k) nx
              · have HALL : Hid (allTo (okW m fs s ids) (k + 1)) := allTo_succ hall.out (by rw [hkk.out, g3, g4]; rfl)
                have hbG := bl_alloc hbz (.cells #[.int .i64 nx] 3)
                have hoG : Hid (Owns elInt _ _ _ _ _) := hoz.out.below (bl_alloc (Below.refl _ _) (.cells #[.int .i64 nx] 3))
                have hoG2 : Hid (∀ g, (Value.slice (some ⟨bo, oo, none⟩) (k + 1) co).ownBlock = some g → w0.heap.size ≤ g) := fun g hg => by have := (hoG.out.lies g (by rw [outW_len]; exact hg)).1; omega
                rw [outW_len] at hoG
                have hll := outW_len fs s ids k
                clear hkk hoz hall
                go_wp2_with fail
                refine (l1Has_any nx _ hsz.out (by simp only [maxLen]; omega)).mono ?_
                rintro e w' ⟨rfl, rfl⟩
                rw [g4]
                clear hsz
                go_wp2_with (first
                  | (at_builtin; refine wpList_append_own _ rfl _ _ 33 rfl (w.heap.size + 2) 3 i0 (.int .i64 0) 1 8 Try.underlying33 hi hz0 hz1 hz2 rfl (by decide) _ (outW fs s ids k).length ((outW fs s ids k).flatMap elInt.cells) rfl hoG.out ⟨_, 0, none⟩ 1 1 [.int .i64 nx] rfl rfl (one_new _ _ _ (by simp)) (fun u hu => by simp at hu; subst hu; rfl) (by unfold maxLen; omega) (by omega) (by simp; omega) ?_)
                  | go_in)
                intro v' w1 hown' hgrow _
                have HO : Hid (Owns elInt w1 (w.heap.size + 2) 3 v' (outW fs s ids (k + 1))) := by unfold Hid; rw [outW_succ, HNX.out]; exact Owns.appended (by rw [hll]; exact hown')
                have hbN := bl_grown hbG hgrow (fun g hg => by have := (hoG2.out g hg); omega)
                clear hown' hgrow hoG hbG hoG2
                go_wp2
                go_roundw
                case rel => exact ⟨k + 1, by omega, by go_num, HO, HALL, hbN⟩
                case measure => simp [intOf]; omega
              · have H : Hid (rtB n fs s ids = false) := by unfold Hid; rw [HB.out]; exact allB_no hlt (by rw [hkk.out, g3, g4]; rfl)
                clear hkk hoz hall
                go_wp2_with (go_at_call 69; refine (l1Has_any nx _ hsz.out (by simp only [maxLen]; omega)).mono ?_; rintro e w' ⟨rfl, rfl⟩; rw [g4])
                go_ret2
                exact ⟨_, by rw [H.out]; rfl, fun hh => by rw [H.out] at hh; (cases hh), hb0.trans (hbz.mono (by omega))⟩
            · have H : Hid (rtB n fs s ids = false) := by unfold Hid; rw [HB.out]; exact allB_no hlt (by rw [hkk.out, g3]; rfl)
              clear hkk hoz hall
              go_wp2
              go_ret2
              exact ⟨_, by rw [H.out]; rfl, fun hh => by rw [H.out] at hh; (cases hh), hb0.trans (hbz.mono (by omega))⟩
        · have hkm : k = kr := by omega
          have H : Hid (rtB n fs s ids = true) := by unfold Hid; rw [HB.out]; exact allB_yes (by rw [← hkm]; exact hall.out) rfl
          rw [hkm] at hown
          clear hlt hall
          go_wp2
          go_ret2
          exact ⟨_, by rw [H.out]; rfl, fun _ => hown.out.base (by omega), hb0.trans (hb.mono (by omega))⟩
set_option maxHeartbeats 1000000 in
set_option maxRecDepth 100000 in
theorem visited_any (s : Int) (w : World) (h : NetIs w A n c A' m d xs fs) (hr : RtIs w R kr er ids) :
    Calls Try.prog 62 #[.agg #[.slice A n c, .slice A' m d], .agg #[.int .i64 s, .slice R kr er]] w fun e w' => ∃ v, e = .returned (.tuple #[v, .bool (rtB n fs s ids)]) ∧ Owns elInt w' w.heap.size 3 v (rtL n fs s ids) ∧ Below w.heap.size w w' := by
  obtain ⟨i0, hi, hz0, hz1, hz2⟩ := info_parts int_info
  have hb1 := bl_alloc (Below.refl w.heap.size w) (.cells #[.slice A n c, .slice A' m d] 27)
  have hb0 := bl_alloc hb1 (.cells #[.int .i64 s, .slice R kr er] 35)
  have hx0 : Blk ((w.alloc (.cells #[.slice A n c, .slice A' m d] 27)).alloc (.cells #[.int .i64 s, .slice R kr er] 35)) w.heap.size 27 #[.slice A n c, .slice A' m d] := (Blk.new _ _ _).alloc _
  have hy0 : Blk ((w.alloc (.cells #[.slice A n c, .slice A' m d] 27)).alloc (.cells #[.int .i64 s, .slice R kr er] 35)) (w.heap.size + 1) 35 #[.int .i64 s, .slice R kr er] := by
    have := Blk.new (w.alloc (.cells #[.slice A n c, .slice A' m d] 27)) 35 #[.int .i64 s, .slice R kr er]
    simpa using this
  have h0 := h.grow hb0
  have hr0 := hr.grow hb0
  have hlx := h.xlen
  have hlf := h.flen
  have hm := h.mle
  have hn := h.nle
  have hlr := hr.len
  have hkr := hr.le
  have hsz0 : ((w.alloc (.cells #[.slice A n c, .slice A' m d] 27)).alloc (.cells #[.int .i64 s, .slice R kr er] 35)).heap.size = w.heap.size + 2 := by simp
  cases g1 : inB 0 ((n : Int) - 1) s
  · have H : Hid (rtB n fs s ids = false) := by unfold Hid rtB; rw [g1]; rfl
    clear hlx hlf hlr
    go_enter Try.func62, Try.ntmps62
    go_wp2_with (go_at_call 107; refine (within_any _ _ _ _).mono ?_; rintro e w' ⟨rfl, rfl⟩; rw [g1])
    go_ret2
    exact ⟨_, by rw [H.out]; rfl, by rw [rtL_no H.out]; exact World.ownsRow_nil _ _ _ _, hb0⟩
  · by_cases hk0 : kr = 0
    · have H : Hid (rtB n fs s ids = false) := by unfold Hid rtB; rw [g1, hlr, hk0]; rfl
      have e0 : (kr == 0) = true := by simp [hk0]
      have e1 : ((kr : Int) == 0) = true := by simp [hk0]
      clear hlx hlf hlr hk0
      go_enter Try.func62, Try.ntmps62
      go_wp2_with (go_at_call 107; refine (within_any _ _ _ _).mono ?_; rintro e w' ⟨rfl, rfl⟩; rw [g1])
      go_ret2
      exact ⟨_, by rw [H.out]; rfl, by rw [rtL_no H.out]; exact World.ownsRow_nil _ _ _ _, hb0⟩
    · have e0 : (kr == 0) = false := by simp [hk0]
      have e1 : ((kr : Int) == 0) = false := by simp; omega
      have HB : Hid (rtB n fs s ids = allB (okW m fs s ids) kr) := by unfold Hid rtB; rw [g1, hlr, e0, hlf]; rfl
      clear hlx
      go_enter Try.func62, Try.ntmps62
      go_wp2_with fail
      refine (within_any _ _ _ _).mono ?_
      rintro e w' ⟨rfl, rfl⟩
      rw [g1]
      go_wp2_with fail
      go_region
      have hbe : Below ((w.alloc (.cells #[.slice A n c, .slice A' m d] 27)).alloc (.cells #[.int .i64 s, .slice R kr er] 35)).heap.size ((w.alloc (.cells #[.slice A n c, .slice A' m d] 27)).alloc (.cells #[.int .i64 s, .slice R kr er] 35)) ((((w.alloc (.cells #[.slice A n c, .slice A' m d] 27)).alloc (.cells #[.int .i64 s, .slice R kr er] 35)).alloc (.cells #[.int .i64 s] 3)).drew) := by
        repeat (first | exact Below.refl _ _ | apply Below.drew | apply bl_alloc)
      have hoe : Hid (Owns elInt ((((w.alloc (.cells #[.slice A n c, .slice A' m d] 27)).alloc (.cells #[.int .i64 s, .slice R kr er] 35)).alloc (.cells #[.int .i64 s] 3)).drew) (w.heap.size + 2) 3 (.slice (some ⟨w.heap.size + 2, 0, none⟩) 1 1) (outW fs s ids 0)) :=
        hid ((show Owns elInt (((w.alloc (.cells #[.slice A n c, .slice A' m d] 27)).alloc (.cells #[.int .i64 s, .slice R kr er] 35)).alloc (.cells #[.int .i64 s] 3)) (w.heap.size + 2) 3 (.slice (some ⟨w.heap.size + 2, 0, none⟩) 1 1) [s] from Owns.of_blk (n := 1) (cap := 1) (cur := #[.int .i64 s]) (by have := Blk.new ((w.alloc (.cells #[.slice A n c, .slice A' m d] 27)).alloc (.cells #[.int .i64 s, .slice R kr er] 35)) 3 #[.int .i64 s]; simpa using this) (Nat.le_refl _) rfl (Nat.le_refl _) rfl (by decide) (filled_one s)).below (Below.drew (Below.refl _ _)))
      have q9 : ((((w.alloc (.cells #[.slice A n c, .slice A' m d] 27)).alloc (.cells #[.int .i64 s, .slice R kr er] 35)).alloc (.cells #[.int .i64 s] 3)).drew).cell? ⟨w.heap.size + 1, 1, none⟩ = some (.slice R kr er) := by
        have := (hy0.below hbe (by omega)).cell 1
        simpa using this
      go_wp2_with fail
      generalize hw0 : ((w.alloc (.cells #[.slice A n c, .slice A' m d] 27)).alloc (.cells #[.int .i64 s, .slice R kr er] 35)) = w0 at *
      clear q9
      go_loopw [6, 7, 32] (fun v a i wr => ∃ (k : Nat) (cu : Int), k ≤ kr ∧ i = .int .i64 k ∧ a = .int .i64 cu ∧ Hid (atW fs s ids k = cu) ∧ Hid (Owns elInt wr (w.heap.size + 2) 3 v (outW fs s ids k)) ∧ Hid (allTo (okW m fs s ids) k) ∧ Below w0.heap.size w0 wr) (fun _ _ i _ => kr - (intOf i).toNat)
      case atStart => exact ⟨0, s, Nat.zero_le _, rfl, rfl, rfl, hoe, allTo_zero _, hbe⟩
      case round =>
        clear hbe hoe
        obtain ⟨k, cu, hk, rfl, rfl, hcu, hown, hall, hb⟩ := hrel
        by_cases hlt : k < kr
        · obtain ⟨b, o, rfl, _, hc⟩ := hr0.2.at_ hlt
          obtain ⟨i, hik⟩ := get_of (k := k) hlr hlt
          have hci := bl_cell hb (hc k i hik 0 _ rfl)
          simp only [elInt, Nat.mul_one, Nat.add_zero] at hci
          have p1 := (hx0.below hb (by omega)).cell 1
          simp at p1
          have hwz := hb.size
          clear hc
          cases g2 : inB 0 ((m : Int) - 1) i
          · have H : Hid (rtB n fs s ids = false) := by unfold Hid; rw [HB.out]; exact allB_no hlt (by unfold okW; rw [getD_of hik, g2]; rfl)
            clear hik hown hall
            go_wp2_with (go_at_call 107; refine (within_any _ _ _ _).mono ?_; rintro e w' ⟨rfl, rfl⟩; rw [g2])
            go_ret2
            exact ⟨_, by rw [H.out]; rfl, by rw [rtL_no H.out]; exact World.ownsRow_nil _ _ _ _, hb0.trans (hb.mono (by omega))⟩
          · obtain ⟨i0', i1'⟩ := inB_idx g2
            obtain ⟨f, hf⟩ := get_of (k := i.toNat) hlf (by omega)
            obtain ⟨bf, of, rfl, _, hcf⟩ := h0.fibs.at_ (k := i.toNat) (by omega)
            have f0 := bl_cell hb (hcf _ f hf 0 _ rfl)
            have f1 := bl_cell hb (hcf _ f hf 1 _ rfl)
            have f2 := bl_cell hb (hcf _ f hf 2 _ rfl)
            have f3 := bl_cell hb (hcf _ f hf 3 _ rfl)
            simp only [elFib, Nat.add_zero] at f0 f1 f2 f3
            have HNX' : Hid (atW fs s ids (k + 1) = otherF f cu) := by unfold Hid; rw [← hcu.out]; exact atW_succ hik hf
            have HC := hid (otherEnd_any f cu wr)
            generalize hnx : otherF f cu = nx at HC HNX'
            have HNX := HNX'
            have hkk : Hid (okW m fs s ids k = (!decide (nx < 0) && !hasB (outW fs s ids k) nx)) := by unfold Hid okW; rw [getD_of hik, g2, HNX.out]; rfl
            clear hik hf hcf hnx hcu HNX'
            go_wp2_with fail
            refine (within_any _ _ _ _).mono ?_
            rintro e w' ⟨rfl, rfl⟩
            rw [g2]
            go_wp2_with fail
            refine HC.out.mono ?_
            rintro e wy ⟨rfl, hby⟩
            have hbz := bl_then hb hby
            have hoz : Hid (Owns elInt _ _ _ _ _) := hown.out.below hby
            obtain ⟨Ao, co, rfl, _, _, hso⟩ := hoz.out.form
            rw [outW_len] at hso ⊢
            have hso := hid hso
            have hwys := hby.size
            clear HC hown f0 f1 f2 f3 p1 hci
            cases g3 : decide (nx < 0)
            · cases g4 : hasB (outW fs s ids k) nx
              · have HALL : Hid (allTo (okW m fs s ids) (k + 1)) := allTo_succ hall.out (by rw [hkk.out, g3, g4]; rfl)
                have hbG := bl_alloc hbz (.cells #[.int .i64 nx] 3)
                have hoG : Hid (Owns elInt _ _ _ _ _) := hoz.out.below (bl_alloc (Below.refl _ _) (.cells #[.int .i64 nx] 3))
                have hoG2 : Hid (∀ g, (Value.slice Ao (k + 1) co).ownBlock = some g → w0.heap.size ≤ g) := fun g hg => by have := (hoG.out.lies g (by rw [outW_len]; exact hg)).1; omega
                rw [outW_len] at hoG
                have hll := outW_len fs s ids k
                clear hkk hoz hall
                go_wp2_with fail
                refine (containsI_any nx _ hso.out (by simp only [maxLen]; omega)).mono ?_
                rintro e w' ⟨rfl, rfl⟩
                rw [g4]
                clear hso
                go_wp2_with (first
                  | (at_builtin; refine wpList_append_own _ rfl _ _ 33 rfl (w.heap.size + 2) 3 i0 (.int .i64 0) 1 8 Try.underlying33 hi hz0 hz1 hz2 rfl (by decide) _ (outW fs s ids k).length ((outW fs s ids k).flatMap elInt.cells) rfl hoG.out ⟨_, 0, none⟩ 1 1 [.int .i64 nx] rfl rfl (one_new _ _ _ (by simp)) (fun u hu => by simp at hu; subst hu; rfl) (by unfold maxLen; omega) (by omega) (by simp; omega) ?_)
                  | go_in)
                intro v' w1 hown' hgrow _
                have HO : Hid (Owns elInt w1 (w.heap.size + 2) 3 v' (outW fs s ids (k + 1))) := by unfold Hid; rw [outW_succ, HNX.out]; exact Owns.appended (by rw [hll]; exact hown')
                have hbN := bl_grown hbG hgrow (fun g hg => by have := (hoG2.out g hg); omega)
                clear hown' hgrow hoG hbG hoG2
                go_wp2
                go_roundw
                case rel => exact ⟨k + 1, nx, by omega, by go_num, rfl, HNX, HO, HALL, hbN⟩
                case measure => simp [intOf]; omega
              · have H : Hid (rtB n fs s ids = false) := by unfold Hid; rw [HB.out]; exact allB_no hlt (by rw [hkk.out, g3, g4]; rfl)
                clear hkk hoz hall
                go_wp2_with fail
                refine (containsI_any nx _ hso.out (by simp only [maxLen]; omega)).mono ?_
                rintro e w' ⟨rfl, rfl⟩
                rw [g4]
                go_wp2_with fail
                go_ret2
                exact ⟨_, by rw [H.out]; rfl, by rw [rtL_no H.out]; exact World.ownsRow_nil _ _ _ _, hb0.trans (hbz.mono (by omega))⟩
            · have H : Hid (rtB n fs s ids = false) := by unfold Hid; rw [HB.out]; exact allB_no hlt (by rw [hkk.out, g3]; rfl)
              clear hkk hoz hall
              go_wp2_with fail
              go_ret2
              exact ⟨_, by rw [H.out]; rfl, by rw [rtL_no H.out]; exact World.ownsRow_nil _ _ _ _, hb0.trans (hbz.mono (by omega))⟩
        · have hkm : k = kr := by omega
          have H : Hid (rtB n fs s ids = true) := by unfold Hid; rw [HB.out]; exact allB_yes (by rw [← hkm]; exact hall.out) rfl
          have HL : Hid (rtL n fs s ids = outW fs s ids kr) := (rtL_yes H.out).trans (by rw [hlr])
          rw [hkm] at hown
          clear hlt hall hcu
          go_wp2
          go_ret2
          exact ⟨_, by rw [H.out]; rfl, by rw [HL.out]; exact hown.out.base (by omega), hb0.trans (hb.mono (by omega))⟩
end Go.Proofs.Ytfepilpllfiegaa
/- szStringS, walked: it takes the lengths off a number, -1 if that is too small. Conditions: the number lies in 0 .. 1048576. -/
namespace Go.Proofs.Ytfepilpllfiegaa
open Go.RowKit
def lessI (left : Int) (t : Nat) : Int := if (t : Int) ≤ left then left - t else -1
def sumTo (xs : List ByteArray) (k : Nat) : Nat := ((xs.take k).map ByteArray.size).sum
def strTot (xs : List ByteArray) : Nat := xs.length + sumTo xs xs.length
theorem sumTo_succ {xs : List ByteArray} {k : Nat} {x : ByteArray} (h : xs[k]? = some x) : sumTo xs (k + 1) = sumTo xs k + x.size := by
  unfold sumTo
  obtain ⟨hk, hx⟩ := List.getElem?_eq_some_iff.1 h
  rw [List.take_succ_eq_append_getElem hk, hx, List.map_append, List.sum_append]; simp
theorem sumTo_mono {xs : List ByteArray} {j k : Nat} (h : j ≤ k) : sumTo xs j ≤ sumTo xs k := by
  unfold sumTo
  obtain ⟨d, rfl⟩ := Nat.exists_eq_add_of_le h
  rw [List.take_add, List.map_append, List.sum_append]; omega
theorem size_le_tot {xs : List ByteArray} {x : ByteArray} (h : x ∈ xs) : x.size ≤ strTot xs := by
  obtain ⟨k, hk, e⟩ := List.mem_iff_getElem.1 h
  have h1 := sumTo_succ (xs := xs) (k := k) (x := x) (by rw [List.getElem?_eq_getElem hk, e])
  have h2 := sumTo_mono (xs := xs) (j := k + 1) (k := xs.length) hk
  unfold strTot; omega
theorem lessI_neg {left : Int} {t : Nat} (h : left < t) : lessI left t = -1 := by unfold lessI; rw [if_neg (by omega)]
theorem lessI_pos {left : Int} {t : Nat} (h : (t : Int) ≤ left) : lessI left t = left - t := by unfold lessI; rw [if_pos h]
end Go.Proofs.Ytfepilpllfiegaa
/- szFiberS and szNetwork, walked. Conditions: the number lies in 0 .. 1048576. -/
namespace Go.Proofs.Ytfepilpllfiegaa
open Go.RowKit
theorem lessI_bd {left : Int} {t : Nat} : (lessI left t = -1 ∧ left < t) ∨ (0 ≤ lessI left t ∧ lessI left t ≤ left ∧ (t : Int) ≤ left) := by
  unfold lessI; split <;> omega
theorem lessI_lessI {left : Int} {s t : Nat} : lessI left (s + t) = if lessI left s < 0 then -1 else lessI (lessI left s) t := by
  unfold lessI; split <;> split <;> (try split) <;> omega
/-- What a network holds: names, letters, fibers. -/
def netTot {α : Type} (xs : List ByteArray) (fs : List α) : Nat := strTot xs + fs.length
end Go.Proofs.Ytfepilpllfiegaa
/- How a network that can be read is opened. Conditions: none. -/
namespace Go.Proofs.Ytfepilpllfiegaa
open Go.ChangeShapes Go.WideShapes Go.ChangeAt Go.RowKit Go.Deep Go.Joins
theorem cellsS : Try.prog.cellsOf 9 = 1 := by kernel_rfl
theorem cellsI : Try.prog.cellsOf 3 = 1 := by kernel_rfl
section
variable {H : Type} {enc : TypeId × Value → H} {W : World} {spare : Nat → Bool} {held : Bool}
/-- A network that came in. -/
def NetArg (W : World) (A : Option Addr) (n c : Nat) (A' : Option Addr) (m d : Nat) (xs : List ByteArray) (fs : List Fib) : Prop :=
  SlArg elStr W A n c xs (fun s => s.size ≤ maxLen) ∧ SlArg elFib W A' m d fs (fun _ => True)
end
end Go.Proofs.Ytfepilpllfiegaa
/- Lists of numbers, and a fiber, that came in. Conditions: none. -/
namespace Go.Proofs.Ytfepilpllfiegaa
open Go.RowKit
section
variable {H : Type} {enc : TypeId × Value → H} {W : World} {spare : Nat → Bool} {held : Bool}
/-- A list of numbers that came in. -/
def IntsArg (W : World) (A : Option Addr) (n c : Nat) (xs : List Int) : Prop := SlArg elInt W A n c xs (fun a => -9223372036854775808 ≤ a ∧ a ≤ 9223372036854775807)
set_option maxRecDepth 100000 in
theorem open_ints {base : Nat} {v : Value} {d : DataW H} {p : List MemPlace} (hv : Value.okWide Try.prog W .any base 33 v) (h : DataW.Trod enc Try.prog W 0 spare held 33 v d p) :
    ∃ A n c xs, v = .slice A n c ∧ IntsArg W A n c xs :=
  open_sl_val elInt _ Try.underlying33 cellsI (el_int Try.underlying3) hv h
end
end Go.Proofs.Ytfepilpllfiegaa
