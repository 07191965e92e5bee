/- Lengths of routes, their nodes and their ends; RouteNodes, RouteLength; walked. Conditions: as each states. -/
import Derived.Test.YtdnmkcalpfkfhaaRtLaw
import Derived.Test.YtdnmkcalpfkfhaaLed2
namespace Go.Proofs.Ytdnmkcalpfkfhaa
open Go.RowKit
section
variable {n c m d er : Nat} {A A' R : Option Addr} {xs : List ByteArray} {fs : List Fib} {s : Int} {ids : List Int}
set_option maxHeartbeats 1000000 in
set_option maxRecDepth 100000 in
theorem lengthOf_any (w : World) (h : NetIs w A n c A' m d xs fs) (hr : RtIs w R ids.length er ids) (hin : ∀ x ∈ ids, 0 ≤ x ∧ x < fs.length) (hl : ∀ f ∈ fs, 0 ≤ f.len ∧ f.len ≤ 5000) :
    Calls Try.prog 69 #[.agg #[.slice A n c, .slice A' m d], .agg #[.int .i64 s, .slice R ids.length er]] w fun e w' => e = .returned (.int .i64 (lenR fs ids)) ∧ Below w.heap.size w w' := by
  have hS := ((Led.nil w).blk_ w.heap.size rfl 35 #[.slice A n c, .slice A' m d]).blk_ (w.heap.size + 1) (by simp) 37 #[.int .i64 s, .slice R ids.length er]
  have hbd := hid (rlTo_bd hl hin)
  have HIN := hid hin
  have hkr := hr.le
  have hm := h.mle
  have hlf := hid h.flen
  have HS := hid hS
  have HF := hid h
  have HR := hid hr
  clear hin hl hS h hr
  go_enter Try.func69, Try.ntmps69
  go_wp2_with fail
  go_loopw [5, 11] (fun t i wr => ∃ (k : Nat) (r : Int), k ≤ ids.length ∧ i = .int .i64 k ∧ t = .int .i64 r ∧ Hid (r = rlTo fs ids k) ∧ Hid (Led w wr [tBlk (w.heap.size + 1) 37 #[.int .i64 s, .slice R ids.length er], tBlk w.heap.size 35 #[.slice A n c, .slice A' m d]])) (fun _ i _ => ids.length - (intOf i).toNat)
  case atStart => exact ⟨0, 0, Nat.zero_le _, rfl, rfl, (rlTo_zero fs ids).symm, HS⟩
  case round =>
    clear HS
    obtain ⟨k, r, hk, rfl, rfl, hre, HS⟩ := hrel
    have p1 := HS.out.cell 1 1 rfl rfl
    have p3 := HS.out.cell 0 1 rfl rfl
    by_cases hlt : k < ids.length
    · obtain ⟨ib, io, rfl, _, hc⟩ := HR.out.2.at_ hlt
      obtain ⟨x, hxk⟩ := get_of (k := k) rfl hlt
      have hx := HIN.out x (List.mem_of_getElem? hxk)
      rw [hlf.out] at hx
      obtain ⟨j, rfl⟩ : ∃ j : Nat, x = (j : Int) := ⟨x.toNat, by omega⟩
      obtain ⟨b, o, rfl, _, hd⟩ := HF.out.fibs.at_ (k := j) (by omega)
      obtain ⟨f, hfj⟩ := get_of (k := j) hlf.out (by omega)
      have e0 := bl_cell HS.out.bl (hc k _ hxk 0 _ rfl)
      have f2 := bl_cell HS.out.bl (hd j f hfj 2 _ rfl)
      simp only [elFib, elInt, Nat.mul_one, Nat.add_zero] at e0 f2
      have b1 := hbd.out k (by omega)
      have b2 := hbd.out (k + 1) (by omega)
      have HN : Hid (rlTo fs ids (k + 1) = r + f.len) := by unfold Hid; rw [rlTo_succ hxk (by simpa using hfj), ← hre.out]
      rw [← hre.out] at b1
      rw [HN.out] at b2
      have iw : IntKind.i64.wrap (r + f.len) = r + f.len := IntWalk.i64_in _ (by omega)
      have ik : (k : Int) < (ids.length : Int) := by omega
      clear hc hd hxk hfj
      go_wp2
      go_roundw
      case rel => exact ⟨k + 1, _, by omega, by go_num, rfl, HN.out.symm, HS⟩
      case measure => simp [intOf]; omega
    · have hkm : k = ids.length := by omega
      have HE : Hid (r = lenR fs ids) := by rw [hkm] at hre; exact hre
      clear hlt hre
      go_wp2
      go_ret
      exact ⟨by rw [HE.out]; rfl, HS.out.bl⟩
set_option maxHeartbeats 1000000 in
set_option maxRecDepth 100000 in
theorem l4Length_any (w : World) (h : NetIs w A n c A' m d xs fs) (hr : RtIs w R ids.length er ids) (hin : ∀ x ∈ ids, 0 ≤ x ∧ x < fs.length) (hl : ∀ f ∈ fs, 0 ≤ f.len ∧ f.len ≤ 5000) :
    Calls Try.prog 67 #[.agg #[.slice A n c, .slice A' m d], .agg #[.int .i64 s, .slice R ids.length er]] w fun e w' => e = .returned (.int .i64 (lenR fs ids)) ∧ Below w.heap.size w w' := by
  have hS := ((Led.nil w).blk_ w.heap.size rfl 35 #[.slice A n c, .slice A' m d]).blk_ (w.heap.size + 1) (by simp) 37 #[.int .i64 s, .slice R ids.length er]
  have hbd := hid (rlTo_bd hl hin)
  have HIN := hid hin
  have hkr := hr.le
  have hm := h.mle
  have hlf := hid h.flen
  have HS := hid hS
  have HF := hid h
  have HR := hid hr
  clear hin hl hS h hr
  go_enter Try.func67, Try.ntmps67
  go_wp2_with fail
  go_loopw [5, 6] (fun t i wr => ∃ (k : Nat) (r : Int), k ≤ ids.length ∧ i = .int .i64 k ∧ t = .int .i64 r ∧ Hid (r = rlTo fs ids k) ∧ Hid (Led w wr [tBlk (w.heap.size + 1) 37 #[.int .i64 s, .slice R ids.length er], tBlk w.heap.size 35 #[.slice A n c, .slice A' m d]])) (fun _ i _ => ids.length - (intOf i).toNat)
  case atStart => exact ⟨0, 0, Nat.zero_le _, rfl, rfl, (rlTo_zero fs ids).symm, HS⟩
  case round =>
    clear HS
    obtain ⟨k, r, hk, rfl, rfl, hre, HS⟩ := hrel
    have p1 := HS.out.cell 1 1 rfl rfl
    have p3 := HS.out.cell 0 1 rfl rfl
    by_cases hlt : k < ids.length
    · obtain ⟨ib, io, rfl, _, hc⟩ := HR.out.2.at_ hlt
      obtain ⟨x, hxk⟩ := get_of (k := k) rfl hlt
      have hx := HIN.out x (List.mem_of_getElem? hxk)
      rw [hlf.out] at hx
      obtain ⟨j, rfl⟩ : ∃ j : Nat, x = (j : Int) := ⟨x.toNat, by omega⟩
      obtain ⟨b, o, rfl, _, hd⟩ := HF.out.fibs.at_ (k := j) (by omega)
      obtain ⟨f, hfj⟩ := get_of (k := j) hlf.out (by omega)
      have e0 := bl_cell HS.out.bl (hc k _ hxk 0 _ rfl)
      have f2 := bl_cell HS.out.bl (hd j f hfj 2 _ rfl)
      simp only [elFib, elInt, Nat.mul_one, Nat.add_zero] at e0 f2
      have b1 := hbd.out k (by omega)
      have b2 := hbd.out (k + 1) (by omega)
      have HN : Hid (rlTo fs ids (k + 1) = r + f.len) := by unfold Hid; rw [rlTo_succ hxk (by simpa using hfj), ← hre.out]
      rw [← hre.out] at b1
      rw [HN.out] at b2
      have iw : IntKind.i64.wrap (r + f.len) = r + f.len := IntWalk.i64_in _ (by omega)
      have ik : (k : Int) < (ids.length : Int) := by omega
      clear hc hd hxk hfj
      have P1 : ∀ w', Cls wr w' → w'.cell? ⟨w.heap.size, 1, none⟩ = some (.slice (some ⟨b, o, none⟩) m d) := fun _ h => h.cell p1
      have P3 : ∀ w', Cls wr w' → w'.cell? ⟨w.heap.size + 1, 1, none⟩ = some (.slice (some ⟨ib, io, none⟩) ids.length er) := fun _ h => h.cell p3
      have E0 : ∀ w', Cls wr w' → w'.cell? ⟨ib, io + k, none⟩ = some (.int .i64 (j : Int)) := fun _ h => h.cell e0
      have F2 : ∀ w', Cls wr w' → w'.cell? ⟨b, o + j * 4 + 2, none⟩ = some (.int .i64 f.len) := fun _ h => h.cell f2
      go_wp2
      refine region_cls (by kernel_rfl) (by kernel_rfl) ?_
      repeat (first
        | ((with_reducible refine quiet_pos ?_ (fun K hK => ?_))
           · rfl
           apply Exists.intro
           refine ⟨fun w' hw' => ?_, ?_⟩
           · go_simp
             with_reducible rfl
           simp only [Act.put, List.setIfInBounds_toArray, List.set_cons_zero, List.set_cons_succ]
           refine hK _ ?_; clear hK K)
        | ((with_reducible refine quiet_neg ?_ (fun K hK => ?_))
           · rfl
           simp only [Act.put, List.setIfInBounds_toArray, List.set_cons_zero, List.set_cons_succ]
           refine hK _ ?_; clear hK K))
      with_reducible refine wpQuiet_nil ?_
      intro wz hwz'
      have HS2 := hid (HS.out.step hwz')
      clear P1 P3 E0 F2 HS
      go_wp2
      go_roundw
      case rel => exact ⟨k + 1, _, by omega, by go_num, rfl, HN.out.symm, HS2⟩
      case measure => simp [intOf]; omega
    · have hkm : k = ids.length := by omega
      have HE : Hid (r = lenR fs ids) := by rw [hkm] at hre; exact hre
      clear hlt hre
      go_wp2
      go_ret
      exact ⟨by rw [HE.out]; rfl, HS.out.bl⟩
set_option maxHeartbeats 1000000 in
set_option maxRecDepth 100000 in
theorem l4Nodes_any (w : World) (h : NetIs w A n c A' m d xs fs) (hr : RtIs w R ids.length er ids) (g : rtB n fs s ids = true) :
    Calls Try.prog 58 #[.agg #[.slice A n c, .slice A' m d], .agg #[.int .i64 s, .slice R ids.length er]] w fun e w' => ∃ v, e = .returned v ∧ Owns elInt w' w.heap.size 3 v (outW fs s ids ids.length) ∧ Below w.heap.size w w' := by
  have hS := ((Led.nil w).blk_ w.heap.size rfl 35 #[.slice A n c, .slice A' m d]).blk_ (w.heap.size + 1) (by simp) 37 #[.int .i64 s, .slice R ids.length er]
  go_enter Try.func58, Try.ntmps58
  go_wp2_with fail
  refine (l4Walk_any s _ (h.grow hS.bl) (hr.grow hS.bl)).mono ?_
  rintro e w1 ⟨v, rfl, ho, hb⟩
  have HO := hid (ho g)
  clear ho
  go_wp2_with fail
  go_ret
  exact ⟨_, rfl, HO.out.base hS.bl.size, bl_then hS.bl hb⟩
set_option maxHeartbeats 1000000 in
set_option maxRecDepth 100000 in
theorem l4End_any (w : World) (h : NetIs w A n c A' m d xs fs) (hr : RtIs w R ids.length er ids) (g : rtB n fs s ids = true) :
    Calls Try.prog 73 #[.agg #[.slice A n c, .slice A' m d], .agg #[.int .i64 s, .slice R ids.length er]] w fun e w' => e = .returned (.int .i64 (atW fs s ids ids.length)) ∧ Below w.heap.size w w' := by
  have hS := ((Led.nil w).blk_ w.heap.size rfl 35 #[.slice A n c, .slice A' m d]).blk_ (w.heap.size + 1) (by simp) 37 #[.int .i64 s, .slice R ids.length er]
  have hkr := hr.le
  have hol := outW_len fs s ids ids.length
  have hog := outW_get fs s ids ids.length
  have HL := hid hol
  have HG := hid hog
  clear hol hog
  go_enter Try.func73, Try.ntmps73
  go_wp2_with fail
  refine (l4Nodes_any _ (h.grow hS.bl) (hr.grow hS.bl) g).mono ?_
  rintro e w1 ⟨v, rfl, ho, hb⟩
  obtain ⟨A1, c1, rfl, _, _, hs⟩ := ho.form
  rw [HL.out] at hs ⊢
  obtain ⟨b, o, rfl, _, hc⟩ := hs.at_ (k := ids.length) (by omega)
  have e0 := hc _ _ HG.out 0 _ rfl
  simp only [elInt, Nat.mul_one, Nat.add_zero] at e0
  have iw : IntKind.i64.wrap (((ids.length + 1 : Nat) : Int) - 1) = (ids.length : Int) := by rw [show (((ids.length + 1 : Nat) : Int) - 1) = (ids.length : Int) by omega]; exact IntWalk.i64_in _ (by omega)
  have ik : (ids.length : Int) < ((ids.length + 1 : Nat) : Int) := by omega
  have hbz := bl_then hS.bl hb
  clear ho hs hc
  go_wp2_with fail
  go_ret
  exact ⟨rfl, hbz⟩
set_option maxHeartbeats 1000000 in
set_option maxRecDepth 100000 in
theorem endOf_any (w : World) (h : NetIs w A n c A' m d xs fs) (hr : RtIs w R ids.length er ids) (g : rtB n fs s ids = true) :
    Calls Try.prog 74 #[.agg #[.slice A n c, .slice A' m d], .agg #[.int .i64 s, .slice R ids.length er]] w fun e w' => e = .returned (.int .i64 (atW fs s ids ids.length)) ∧ Below w.heap.size w w' := by
  have hS := ((Led.nil w).blk_ w.heap.size rfl 35 #[.slice A n c, .slice A' m d]).blk_ (w.heap.size + 1) (by simp) 37 #[.int .i64 s, .slice R ids.length er]
  have hkr := hr.le
  have hol := outW_len fs s ids ids.length
  have hog := outW_get fs s ids ids.length
  have HL := hid hol
  have HG := hid hog
  clear hol hog
  go_enter Try.func74, Try.ntmps74
  go_wp2_with fail
  refine (visited_any s _ (h.grow hS.bl) (hr.grow hS.bl)).mono ?_
  rintro e w1 ⟨v, rfl, ho, hb⟩
  rw [rtL_yes g] at ho
  obtain ⟨A1, c1, rfl, _, _, hs⟩ := ho.form
  rw [HL.out] at hs ⊢
  obtain ⟨b, o, rfl, _, hc⟩ := hs.at_ (k := ids.length) (by omega)
  have e0 := hc _ _ HG.out 0 _ rfl
  simp only [elInt, Nat.mul_one, Nat.add_zero] at e0
  have iw : IntKind.i64.wrap (((ids.length + 1 : Nat) : Int) - 1) = (ids.length : Int) := by rw [show (((ids.length + 1 : Nat) : Int) - 1) = (ids.length : Int) by omega]; exact IntWalk.i64_in _ (by omega)
  have ik : (ids.length : Int) < ((ids.length + 1 : Nat) : Int) := by omega
  have hbz := bl_then hS.bl hb
  clear ho hs hc
  go_wp2_with fail
  go_ret
  exact ⟨rfl, hbz⟩
set_option maxHeartbeats 1000000 in
set_option maxRecDepth 100000 in
theorem specRouteNodes (w : World) (h : NetIs w A n c A' m d xs fs) (hr : RtIs w R ids.length er ids) :
    Calls Try.prog 17 #[.agg #[.slice A n c, .slice A' m d], .agg #[.int .i64 s, .slice R ids.length er]] w fun e w' => ∃ v, e = .returned (.tuple #[v, .bool (routeB xs fs s ids)]) ∧ Owns elInt w' w.heap.size 3 v (routeL xs fs s ids) ∧ Below w.heap.size w w' := by
  have hS := ((Led.nil w).blk_ w.heap.size rfl 35 #[.slice A n c, .slice A' m d]).blk_ (w.heap.size + 1) (by simp) 37 #[.int .i64 s, .slice R ids.length er]
  cases g : routeB xs fs s ids
  · have H := hid (routeL_no g)
    go_enter Try.func17, Try.ntmps17
    go_wp2_with fail
    refine (l4Good_any s _ (h.grow hS.bl) (hr.grow hS.bl)).mono ?_
    rintro e w1 ⟨rfl, hb⟩
    replace hS := (hS.step hb).empty elInt 3 w1.heap.size rfl w.heap.size (hS.step hb).bl.size
    rw [g]
    go_wp2_with fail
    go_ret2
    exact ⟨_, rfl, by rw [H.out]; exact hS.own 0 rfl, hS.bl⟩
  · have H := hid (routeL_yes g)
    have hg := (routeB_good g).2
    rw [h.xlen] at hg
    go_enter Try.func17, Try.ntmps17
    go_wp2_with fail
    refine (l4Good_any s _ (h.grow hS.bl) (hr.grow hS.bl)).mono ?_
    rintro e w1 ⟨rfl, hb⟩
    replace hS := hS.step hb
    rw [g]
    have p0 := hS.cell 1 0 rfl rfl
    have p1 := hS.cell 1 1 rfl rfl
    have p2 := hS.cell 0 0 rfl rfl
    have p3 := hS.cell 0 1 rfl rfl
    go_wp2_with fail
    refine (l4Nodes_any w1 (h.grow hS.bl) (hr.grow hS.bl) hg).mono ?_
    rintro e w2 ⟨v, rfl, ho, hb2⟩
    have HO := hid ho
    clear ho
    go_wp2_with fail
    go_ret2
    exact ⟨_, rfl, by rw [H.out]; exact HO.out.base hS.bl.size, bl_then hS.bl hb2⟩
set_option maxHeartbeats 1000000 in
set_option maxRecDepth 100000 in
theorem implRouteLength (w : World) (h : NetIs w A n c A' m d xs fs) (hr : RtIs w R ids.length er ids) :
    Calls Try.prog 29 #[.agg #[.slice A n c, .slice A' m d], .agg #[.int .i64 s, .slice R ids.length er]] w fun e w' => e = .returned (.tuple #[.int .i64 (rlI xs fs s ids), .bool (routeB xs fs s ids)]) ∧ Below w.heap.size w w' := by
  have hS := ((Led.nil w).blk_ w.heap.size rfl 35 #[.slice A n c, .slice A' m d]).blk_ (w.heap.size + 1) (by simp) 37 #[.int .i64 s, .slice R ids.length er]
  cases g : routeB xs fs s ids
  · have H : Hid (rlI xs fs s ids = 0) := by unfold Hid rlI; rw [g]; rfl
    go_enter Try.func29, Try.ntmps29
    go_wp2_with fail
    refine (implIsValidRoute s _ (h.grow hS.bl) (hr.grow hS.bl)).mono ?_
    rintro e w1 ⟨rfl, hb⟩
    rw [g]
    go_wp2_with fail
    go_ret2
    exact ⟨by rw [H.out]; rfl, bl_then hS.bl hb⟩
  · have H : Hid (rlI xs fs s ids = lenR fs ids) := by unfold Hid rlI; rw [g]; rfl
    obtain ⟨hg, hrt⟩ := routeB_good g
    have HL := hid (goodB_lens hg)
    have HM := hid (rtB_mem hrt)
    go_enter Try.func29, Try.ntmps29
    go_wp2_with fail
    refine (implIsValidRoute s _ (h.grow hS.bl) (hr.grow hS.bl)).mono ?_
    rintro e w1 ⟨rfl, hb⟩
    replace hS := hS.step hb
    rw [g]
    have p0 := hS.cell 1 0 rfl rfl
    have p1 := hS.cell 1 1 rfl rfl
    have p2 := hS.cell 0 0 rfl rfl
    have p3 := hS.cell 0 1 rfl rfl
    go_wp2_with fail
    refine (lengthOf_any w1 (h.grow hS.bl) (hr.grow hS.bl) HM.out HL.out).mono ?_
    rintro e w2 ⟨rfl, hb2⟩
    go_wp2_with fail
    go_ret2
    exact ⟨by rw [H.out]; rfl, bl_then hS.bl hb2⟩
set_option maxHeartbeats 1000000 in
set_option maxRecDepth 100000 in
theorem specRouteLength (w : World) (h : NetIs w A n c A' m d xs fs) (hr : RtIs w R ids.length er ids) :
    Calls Try.prog 28 #[.agg #[.slice A n c, .slice A' m d], .agg #[.int .i64 s, .slice R ids.length er]] w fun e w' => e = .returned (.tuple #[.int .i64 (rlI xs fs s ids), .bool (routeB xs fs s ids)]) ∧ Below w.heap.size w w' := by
  have hS := ((Led.nil w).blk_ w.heap.size rfl 35 #[.slice A n c, .slice A' m d]).blk_ (w.heap.size + 1) (by simp) 37 #[.int .i64 s, .slice R ids.length er]
  cases g : routeB xs fs s ids
  · have H : Hid (rlI xs fs s ids = 0) := by unfold Hid rlI; rw [g]; rfl
    go_enter Try.func28, Try.ntmps28
    go_wp2_with fail
    refine (l4Good_any s _ (h.grow hS.bl) (hr.grow hS.bl)).mono ?_
    rintro e w1 ⟨rfl, hb⟩
    rw [g]
    go_wp2_with fail
    go_ret2
    exact ⟨by rw [H.out]; rfl, bl_then hS.bl hb⟩
  · have H : Hid (rlI xs fs s ids = lenR fs ids) := by unfold Hid rlI; rw [g]; rfl
    obtain ⟨hg, hrt⟩ := routeB_good g
    have HL := hid (goodB_lens hg)
    have HM := hid (rtB_mem hrt)
    go_enter Try.func28, Try.ntmps28
    go_wp2_with fail
    refine (l4Good_any s _ (h.grow hS.bl) (hr.grow hS.bl)).mono ?_
    rintro e w1 ⟨rfl, hb⟩
    replace hS := hS.step hb
    rw [g]
    have p0 := hS.cell 1 0 rfl rfl
    have p1 := hS.cell 1 1 rfl rfl
    have p2 := hS.cell 0 0 rfl rfl
    have p3 := hS.cell 0 1 rfl rfl
    go_wp2_with fail
    refine (l4Length_any w1 (h.grow hS.bl) (hr.grow hS.bl) HM.out HL.out).mono ?_
    rintro e w2 ⟨rfl, hb2⟩
    go_wp2_with fail
    go_ret2
    exact ⟨by rw [H.out]; rfl, bl_then hS.bl hb2⟩
end
end Go.Proofs.Ytdnmkcalpfkfhaa
