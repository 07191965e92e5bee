/- Lemmas and walks that the claim rests on, laid together. Conditions: none. -/
import Derived.Test.YtfepilpllfiegaaZ70ba1dc62942
import Derived.Sort.Grow
import Derived.Deep.RegionHeld3
import Derived.Shelf.SlSortCmp.NoneTotal
import Derived.Ground.SlsfProg
import Derived.Test.YtfepilpllfiegaaProg
import Derived.Test.YtfepilpllfiegaaZ17f740c013a7
import Derived.Test.YtfepilpllfiegaaZf3c2460d17f0
import Derived.Test.YtfepilpllfiegaaZ55d8a778231f
import Derived.Test.YtfepilpllfiegaaZc3e33f13110d
import Derived.Test.YtfepilpllfiegaaZ5e470b3a76ba
/- The order of routes with the worlds told as draws and new blocks. Conditions: as each states. By gen_grw.py. -/
namespace Go.Proofs.Ytfepilpllfiegaa
open Go.RowKit Go.Sort
/-- Draws and new blocks. -/
def Grw (w w' : World) : Prop := ∃ (q : Nat) (os : Array Obj), w' = grow (w.drewN q) os
theorem Grw.refl (w : World) : Grw w w := ⟨0, #[], by rw [grow_empty]; rfl⟩
theorem Grw.trans {w w1 w2 : World} (h : Grw w w1) (k : Grw w1 w2) : Grw w w2 := by
  obtain ⟨q, os, rfl⟩ := h
  obtain ⟨q2, os2, rfl⟩ := k
  exact ⟨q + q2, os ++ os2, by show grow (grow ((w.drewN q).drewN q2) os) os2 = _; rw [grow_grow, World.drewN_drewN]⟩
theorem Grw.alloc {w w1 : World} (h : Grw w w1) (o : Obj) : Grw w (w1.alloc o) := h.trans ⟨0, #[o], by rw [alloc_eq_grow]; rfl⟩
theorem Grw.drew (w : World) : Grw w w.drew := ⟨1, #[], by rw [grow_empty]; rfl⟩
theorem Grw.below {w w' : World} (h : Grw w w') : Cls w w' := by
  obtain ⟨q, os, rfl⟩ := h
  refine ⟨rfl, rfl, rfl, ?_, fun k hk => ?_⟩
  · show w.heap.size ≤ (w.heap ++ os).size
    rw [Array.size_append]; omega
  · show (w.heap ++ os)[k]? = w.heap[k]?
    rw [Array.getElem?_append_left hk]
section
variable {n c m d er eq : Nat} {A A' R Q : Option Addr} {xs : List ByteArray} {fs : List Fib} {s t : Int} {ids jds : List Int}
set_option maxHeartbeats 1000000 in
set_option maxRecDepth 100000 in
theorem lengthOf_grw (w : World) (h : NetIs w A n c A' m d xs fs) (hr : RtIs w R ids.length er ids) (hin : ∀ x ∈ ids, 0 ≤ x ∧ x < fs.length) (hl : ∀ f ∈ fs, 0 ≤ f.len ∧ f.len ≤ 5000) :
    Calls Try.prog 93 #[.agg #[.slice A n c, .slice A' m d], .agg #[.int .i64 s, .slice R ids.length er]] w fun e w' => e = .returned (.int .i64 (lenR fs ids)) ∧ Grw w w' := by
  have hS := ((Led.nil w).blk_ w.heap.size rfl 27 #[.slice A n c, .slice A' m d]).blk_ (w.heap.size + 1) (by simp) 35 #[.int .i64 s, .slice R ids.length er]
  have hbd := hid (rlTo_bd hl hin)
  have HIN := hid hin
  have hkr := hr.le
  have hm := h.mle
  have hlf := hid h.flen
  have HS := hid hS
  have HG : Hid (Grw w ((w.alloc (.cells #[.slice A n c, .slice A' m d] 27)).alloc (.cells #[.int .i64 s, .slice R ids.length er] 35))) := ((Grw.refl w).alloc _).alloc _
  have HF := hid h
  have HR := hid hr
  clear hin hl hS h hr
  go_enter Try.func93, Try.ntmps93
  go_wp2_with fail
  go_loopw [5, 11] (fun t i wr => ∃ (k : Nat) (r : Int), k ≤ ids.length ∧ i = .int .i64 k ∧ t = .int .i64 r ∧ Hid (r = rlTo fs ids k) ∧ Hid (Led w wr [tBlk (w.heap.size + 1) 35 #[.int .i64 s, .slice R ids.length er], tBlk w.heap.size 27 #[.slice A n c, .slice A' m d]]) ∧ Hid (Grw w wr)) (fun _ i _ => ids.length - (intOf i).toNat)
  case atStart => exact ⟨0, 0, Nat.zero_le _, rfl, rfl, (rlTo_zero fs ids).symm, HS, HG⟩
  case round =>
    clear HS HG
    obtain ⟨k, r, hk, rfl, rfl, hre, HS, HG⟩ := hrel
    have p1 := HS.out.cell 1 1 rfl rfl
    have p3 := HS.out.cell 0 1 rfl rfl
    by_cases hlt : k < ids.length
    · obtain ⟨ib, io, rfl, _, hc⟩ := HR.out.2.at_ hlt
      obtain ⟨x, hxk⟩ := get_of (k := k) rfl hlt
      have hx := HIN.out x (List.mem_of_getElem? hxk)
      rw [hlf.out] at hx
      obtain ⟨j, rfl⟩ : ∃ j : Nat, x = (j : Int) := ⟨x.toNat, by omega⟩
      obtain ⟨b, o, rfl, _, hd⟩ := HF.out.fibs.at_ (k := j) (by omega)
      obtain ⟨f, hfj⟩ := get_of (k := j) hlf.out (by omega)
      have e0 := bl_cell HS.out.bl (hc k _ hxk 0 _ rfl)
      have f2 := bl_cell HS.out.bl (hd j f hfj 2 _ rfl)
      simp only [elFib, elInt, Nat.mul_one, Nat.add_zero] at e0 f2
      have b1 := hbd.out k (by omega)
      have b2 := hbd.out (k + 1) (by omega)
      have HN : Hid (rlTo fs ids (k + 1) = r + f.len) := by unfold Hid; rw [rlTo_succ hxk (by simpa using hfj), ← hre.out]
      rw [← hre.out] at b1
      rw [HN.out] at b2
      have iw : IntKind.i64.wrap (r + f.len) = r + f.len := IntWalk.i64_in _ (by omega)
      have ik : (k : Int) < (ids.length : Int) := by omega
      clear hc hd hxk hfj
      go_wp2
      go_roundw
      case rel => exact ⟨k + 1, _, by omega, by go_num, rfl, HN.out.symm, HS, HG⟩
      case measure => simp [intOf]; omega
    · have hkm : k = ids.length := by omega
      have HE : Hid (r = lenR fs ids) := by rw [hkm] at hre; exact hre
      clear hlt hre
      go_wp2
      go_ret
      exact ⟨by rw [HE.out]; rfl, HG.out⟩
set_option maxHeartbeats 2000000 in
set_option maxRecDepth 100000 in
theorem compareRoutes_grw (w : World) (h : NetIs w A n c A' m d xs fs) (hr : RtIs w R ids.length er ids) (hq : RtIs w Q jds.length eq jds) (hl : ∀ f ∈ fs, 0 ≤ f.len ∧ f.len ≤ 5000) (hi : ∀ x ∈ ids, 0 ≤ x ∧ x < fs.length) (hj : ∀ x ∈ jds, 0 ≤ x ∧ x < fs.length) :
    Calls Try.prog 64 #[.agg #[.slice A n c, .slice A' m d], .agg #[.int .i64 s, .slice R ids.length er], .agg #[.int .i64 t, .slice Q jds.length eq]] w fun e w' => e = .returned (.int .i64 (ordR fs s ids t jds)) ∧ Grw w w' := by
  have hS := (((Led.nil w).blk_ w.heap.size rfl 27 #[.slice A n c, .slice A' m d]).blk_ (w.heap.size + 1) (by simp) 35 #[.int .i64 s, .slice R ids.length er]).blk_ (w.heap.size + 1 + 1) (by simp) 35 #[.int .i64 t, .slice Q jds.length eq]
  have hri := hr.le
  have hqi := hq.le
  have H : Hid (ordR fs s ids t jds = orI [cmpB (lenR fs ids) (lenR fs jds), cmpB (ids.length : Int) (jds.length : Int), cmpL ids jds, cmpB s t]) := rfl
  have HL : Hid (∀ w', Grw w w' → Calls Try.prog 93 #[.agg #[.slice A n c, .slice A' m d], .agg #[.int .i64 s, .slice R ids.length er]] w' fun e w2 => e = .returned (.int .i64 (lenR fs ids)) ∧ Grw w' w2) := fun w' hw => lengthOf_grw w' (h.grow hw.below) (hr.grow hw.below) hi hl
  have HM : Hid (∀ w', Grw w w' → Calls Try.prog 93 #[.agg #[.slice A n c, .slice A' m d], .agg #[.int .i64 t, .slice Q jds.length eq]] w' fun e w2 => e = .returned (.int .i64 (lenR fs jds)) ∧ Grw w' w2) := fun w' hw => lengthOf_grw w' (h.grow hw.below) (hq.grow hw.below) hj hl
  have HC : Hid (∀ w', Grw w w' → Calls Try.prog 130 #[.slice R ids.length er, .slice Q jds.length eq] w' fun e w2 => e = .returned (.int .i64 (cmpL ids jds)) ∧ w' = w2) := fun w' hw => compareL_any w' (hr.grow hw.below).2 (hq.grow hw.below).2 hri
  clear hi hj hl h hr hq
  go_enter Try.func64, Try.ntmps64
  go_wp2_with fail
  have hG : Grw w (((w.alloc (.cells #[.slice A n c, .slice A' m d] 27)).alloc (.cells #[.int .i64 s, .slice R ids.length er] 35)).alloc (.cells #[.int .i64 t, .slice Q jds.length eq] 35)) := (((Grw.refl w).alloc _).alloc _).alloc _
  generalize (((w.alloc (.cells #[.slice A n c, .slice A' m d] 27)).alloc (.cells #[.int .i64 s, .slice R ids.length er] 35)).alloc (.cells #[.int .i64 t, .slice Q jds.length eq] 35)) = W0 at *
  have C0 : ∀ w', Grw W0 w' → w'.cell? ⟨w.heap.size, 0, none⟩ = some (.slice A n c) := fun _ h => h.below.cell (hS.cell 2 0 rfl rfl)
  have C1 : ∀ w', Grw W0 w' → w'.cell? ⟨w.heap.size, 1, none⟩ = some (.slice A' m d) := fun _ h => h.below.cell (hS.cell 2 1 rfl rfl)
  have C2 : ∀ w', Grw W0 w' → w'.cell? ⟨w.heap.size + 1, 0, none⟩ = some (.int .i64 s) := fun _ h => h.below.cell (hS.cell 1 0 rfl rfl)
  have C3 : ∀ w', Grw W0 w' → w'.cell? ⟨w.heap.size + 1, 1, none⟩ = some (.slice R ids.length er) := fun _ h => h.below.cell (hS.cell 1 1 rfl rfl)
  have C4 : ∀ w', Grw W0 w' → w'.cell? ⟨w.heap.size + 1 + 1, 0, none⟩ = some (.int .i64 t) := fun _ h => h.below.cell (hS.cell 0 0 rfl rfl)
  have C5 : ∀ w', Grw W0 w' → w'.cell? ⟨w.heap.size + 1 + 1, 1, none⟩ = some (.slice Q jds.length eq) := fun _ h => h.below.cell (hS.cell 0 1 rfl rfl)
  have HB : Hid (Grw w W0) := hG
  clear hS hG
  go_region_held3 (fun w' => Grw W0 w') (first | assumption | exact Grw.drew _ | exact Grw.trans (by assumption) (by assumption) | exact Grw.alloc (by assumption) _)
    (first
      | (go_at_call 93; with_reducible refine (HL.out _ (HB.out.trans (by assumption))).mono ?_; rintro e w' ⟨rfl, hb1⟩)
      | (go_at_call 93; with_reducible refine (HM.out _ (HB.out.trans (by assumption))).mono ?_; rintro e w' ⟨rfl, hb2⟩)
      | (go_at_call 130; refine (HC.out _ (HB.out.trans (by assumption))).mono ?_; rintro e w' ⟨rfl, rfl⟩)
      | (go_at_call 129; refine (compare_any _ _ _).mono ?_; rintro e w' ⟨rfl, rfl⟩)
      | (go_at_call 128; refine (or_any (x0 := cmpB (lenR fs ids) (lenR fs jds)) (x1 := cmpB (ids.length : Int) (jds.length : Int)) (x2 := cmpL ids jds) (x3 := cmpB s t) _ (by go_simp) (by go_simp) (by go_simp) (by go_simp)).mono ?_; rintro e w' ⟨rfl, rfl⟩))
  have hz := HB.out.trans (by assumption)
  go_wp2
  go_ret
  exact ⟨by rw [H.out]; rfl, hz⟩
set_option maxHeartbeats 1000000 in
set_option maxRecDepth 100000 in
/-- The closure that routesBetween sorts by. -/
theorem routesCmp_grw {gn : Nat} (w : World) (h : NetIs w A n c A' m d xs fs) (hg : ∀ i v, (#[Value.slice A n c, Value.slice A' m d] : Array Value)[i]? = some v → w.cell? ⟨gn, i, none⟩ = some v) (hr : RtIs w R ids.length er ids) (hq : RtIs w Q jds.length eq jds) (hl : ∀ f ∈ fs, 0 ≤ f.len ∧ f.len ≤ 5000) (hi : ∀ x ∈ ids, 0 ≤ x ∧ x < fs.length) (hj : ∀ x ∈ jds, 0 ≤ x ∧ x < fs.length) :
    Calls Try.prog 125 #[.agg #[.int .i64 s, .slice R ids.length er], .agg #[.int .i64 t, .slice Q jds.length eq], .pointer (some ⟨gn, 0, none⟩)] w fun e w' => e = .returned (.int .i64 (ordR fs s ids t jds)) ∧ Grw w w' := by
  have hG : Grw w ((w.alloc (.cells #[.int .i64 s, .slice R ids.length er] 35)).alloc (.cells #[.int .i64 t, .slice Q jds.length eq] 35)) := ((Grw.refl w).alloc _).alloc _
  have hS := ((Led.nil w).blk_ w.heap.size rfl 35 #[.int .i64 s, .slice R ids.length er]).blk_ (w.heap.size + 1) (by simp) 35 #[.int .i64 t, .slice Q jds.length eq]
  have p0 := hG.below.cell (hg 0 _ rfl)
  have p1 := hG.below.cell (hg 1 _ rfl)
  have HC := hid (compareRoutes_grw (s := s) (t := t) _ (h.grow hG.below) (hr.grow hG.below) (hq.grow hG.below) hl hi hj)
  have HG := hid hG
  clear hG hS hg h hr hq hl hi hj
  go_enter Try.func125, Try.ntmps125
  go_wp2_with fail
  refine HC.out.mono ?_
  rintro e w1 ⟨rfl, h1⟩
  go_wp2_with fail
  go_ret
  exact ⟨rfl, HG.out.trans h1⟩
end
end Go.Proofs.Ytfepilpllfiegaa
/-
  DERIVED: THE SHELF's CONTRACTS AT THIS DUMP, IN PLAIN WORDS (tools/lay-plain.mjs out of 'TryShelfR.lean', which tools/lay-shelf.mjs wrote): THE SAME DECLARATIONS UNDER THE SAME NAMES: 'import', 'namespace', 'open', 'def', 'theorem' AND NOTHING ELSE: no command of the shelf's: FOR A HAND-IN. Each laying: the table of numbers ('.._ren') and one theorem, a field a fact of the dump's own or the kernel's comparison; each contract: ONE APPLICATION.
-/
namespace Go.Proofs
open Go.Shelf
def Try.sortR_ren : Go.Shelf.Ren := ⟨fun | 6 => 124 | 15 => 155 | 14 => 154 | 28 => 170 | 29 => 171 | 20 => 162 | 21 => 163 | 22 => 164 | 23 => 165 | 24 => 166 | 25 => 167 | 26 => 168 | 27 => 169 | 46 => 185 | 47 => 186 | 48 => 187 | 49 => 188 | 50 => 189 | 57 => 195 | n => n, fun | 22 => 30 | 24 => 35 | 25 => 130 | 3 => 3 | 39 => 141 | 0 => 0 | 53 => 166 | 55 => 79 | 4 => 4 | 46 => 160 | 45 => 159 | 50 => 41 | 5 => 5 | 9 => 9 | 66 => 178 | 70 => 182 | 76 => 186 | 77 => 100 | n => n, fun | n => n⟩
theorem Try.sortR : Go.Proofs.SlLaysF0.n6 Try.prog Try.sortR_ren := {
  mixed := by kernel_rfl
  f6 := ⟨Try.f124.name, by decide, Try.func124.trans (congrArg some (by kernel_rfl))⟩
  f14 := ⟨Try.f154.name, by decide, Try.func154.trans (congrArg some (by kernel_rfl))⟩
  f15 := Try.func155.trans (congrArg some (by kernel_rfl))
  f20 := ⟨Try.f162.name, by decide, Try.func162.trans (congrArg some (by kernel_rfl))⟩
  f21 := ⟨Try.f163.name, by decide, Try.func163.trans (congrArg some (by kernel_rfl))⟩
  f22 := ⟨Try.f164.name, by decide, Try.func164.trans (congrArg some (by kernel_rfl))⟩
  f23 := ⟨Try.f165.name, by decide, Try.func165.trans (congrArg some (by kernel_rfl))⟩
  f24 := ⟨Try.f166.name, by decide, Try.func166.trans (congrArg some (by kernel_rfl))⟩
  f25 := ⟨Try.f167.name, by decide, Try.func167.trans (congrArg some (by kernel_rfl))⟩
  f26 := ⟨Try.f168.name, by decide, Try.func168.trans (congrArg some (by kernel_rfl))⟩
  f27 := ⟨Try.f169.name, by decide, Try.func169.trans (congrArg some (by kernel_rfl))⟩
  f28 := Try.func170.trans (congrArg some (by kernel_rfl))
  f29 := Try.func171.trans (congrArg some (by kernel_rfl))
  f46 := ⟨Try.f185.name, by decide, Try.func185.trans (congrArg some (by kernel_rfl))⟩
  f47 := Try.func186.trans (congrArg some (by kernel_rfl))
  f48 := Try.func187.trans (congrArg some (by kernel_rfl))
  f49 := ⟨Try.f188.name, by decide, Try.func188.trans (congrArg some (by kernel_rfl))⟩
  f50 := ⟨Try.f189.name, by decide, Try.func189.trans (congrArg some (by kernel_rfl))⟩
  f57 := ⟨Try.f195.name, by decide, Try.func195.trans (congrArg some (by kernel_rfl))⟩
  t0 := Try.underlying0
  a0 := Try.isAgg0
  z0 := Try.sizeOf0
  v0 := Try.zeroValue0
  t3 := Try.underlying3
  a3 := Try.isAgg3
  z3 := Try.sizeOf3
  v3 := Try.zeroValue3
  t4 := Try.underlying4
  a4 := Try.isAgg4
  z4 := Try.sizeOf4
  v4 := Try.zeroValue4
  t5 := Try.underlying5
  a5 := Try.isAgg5
  z5 := Try.sizeOf5
  v5 := Try.zeroValue5
  t9 := Try.underlying9
  a9 := Try.isAgg9
  z9 := Try.sizeOf9
  v9 := Try.zeroValue9
  t22 := Try.underlying30
  a22 := Try.isAgg30
  z22 := Try.sizeOf30
  v22 := Try.zeroValue30
  t25 := Try.underlying130
  a25 := Try.isAgg130
  z25 := Try.sizeOf130
  v25 := Try.zeroValue130
  t39 := Try.underlying141
  a39 := Try.isAgg141
  z39 := Try.sizeOf141
  v39 := Try.zeroValue141
  t45 := Try.underlying159
  a45 := Try.isAgg159
  z45 := Try.sizeOf159
  v45 := Try.zeroValue159
  t46 := Try.underlying160
  a46 := Try.isAgg160
  z46 := Try.sizeOf160
  v46 := Try.zeroValue160
  t50 := Try.underlying41
  a50 := Try.isAgg41
  z50 := Try.sizeOf41
  v50 := Try.zeroValue41
  t53 := Try.underlying166
  a53 := Try.isAgg166
  z53 := Try.sizeOf166
  v53 := Try.zeroValue166
  t55 := Try.underlying79
  a55 := Try.isAgg79
  z55 := Try.sizeOf79
  v55 := Try.zeroValue79
  t66 := Try.underlying178
  a66 := Try.isAgg178
  z66 := Try.sizeOf178
  v66 := Try.zeroValue178
  t70 := Try.underlying182
  a70 := Try.isAgg182
  z70 := Try.sizeOf182
  v70 := Try.zeroValue182
  t76 := Try.underlying186
  a76 := Try.isAgg186
  z76 := Try.sizeOf186
  v76 := Try.zeroValue186
  t77 := Try.underlying100
  a77 := Try.isAgg100
  z77 := Try.sizeOf100
  v77 := Try.zeroValue100 }
end Go.Proofs
/- slices.SortFunc of routes, by the library's contract, in the words of the ledger. Conditions: at most 1048576 fibers of a route; one start. -/
namespace Go.Proofs.Ytfepilpllfiegaa
open Go.RowKit
theorem ordR_flip (fs : List Fib) (s : Int) (a b : List Int) : ordR fs s a s b = -ordR fs s b s a := by
  rw [ordR_eq, ordR_eq]
  have hf := cmpL_flip a b
  repeat' split
  all_goals omega
theorem ordR_same (fs : List Fib) (s : Int) (a : List Int) : ordR fs s a s a = 0 := by
  have := ordR_flip fs s a a
  omega
theorem leR_of_not {fs : List Fib} {s : Int} {a b : List Int} (h : ¬ ordR fs s b s a < 0) : leR fs s a b := by
  unfold leR
  have := ordR_flip fs s a b
  omega
/-- A route of the row that is sorted. -/
structure SRt (w : World) (base : Nat) (fs : List Fib) (blk : Nat) where
  sl : Sl
  ids : List Int
  own : Owns elInt w base 3 (slV sl) ids
  le : ids.length ≤ 1048576
  ok : ∀ x ∈ ids, 0 ≤ x ∧ x < fs.length
  far : ∀ g, (slV sl).ownBlock = some g → ¬ g = blk
section
variable {w : World} {base blk : Nat} {fs : List Fib} {s : Int}
def encS (s : Int) (x : SRt w base fs blk) : List Value := [.int .i64 s, slV x.sl]
def cfS (s : Int) (x y : SRt w base fs blk) : Int := ordR fs s x.ids s y.ids
theorem ltS (x y : SRt w base fs blk) : ltOf (cfS s) x y = true ↔ ¬ leR fs s y.ids x.ids := by
  unfold ltOf cfS leR
  rw [decide_eq_true_eq, ordR_flip fs s x.ids y.ids]
  omega
theorem ltS_f (x y : SRt w base fs blk) : ltOf (cfS s) x y = false ↔ leR fs s y.ids x.ids := by
  have := ltS (s := s) x y
  cases g : ltOf (cfS s) x y
  · rw [g] at this
    simp at this
    simpa using this
  · rw [g] at this
    simp at this
    simpa using this
theorem swoS : Go.Sort.SWO (ltOf (cfS (w := w) (base := base) (fs := fs) (blk := blk) s)) where
  irrefl x := by rw [ltS_f]; unfold leR; rw [ordR_same]; exact Int.le_refl _
  trans x y z h1 h2 := by
    rw [ltS] at *
    intro h
    exact h1 (leR_trans (leR_total h2) h)
  ntrans x y z h1 h2 := by
    rw [ltS_f] at *
    exact leR_trans h2 h1
end
section
variable {w : World} {base blk : Nat} {fs : List Fib} {s : Int} [Inhabited (SRt w base fs blk)]
theorem sort_touch (m : Nat) (dk : Array (SRt w base fs blk)) (os : Array Obj) : Touch (fun b => b = blk) w (sortWorldK (encS s) 2 w blk 0 m dk os) := by
  refine ⟨rfl, rfl, rfl, ?_, fun k hk hn => ?_⟩
  · simp [sortWorldK, Go.Sort.putRowK, Go.Sort.grow, Go.Sort.putRow, Go.Sort.mapBlock, Go.Sort.ahead]
  · have hk' : k < (w.heap.modify blk (Go.Sort.onCells (Go.Sort.putCells id 0 (Go.Sort.flatK (encS s) 2 dk)))).size := by simpa using hk
    show (w.heap.modify blk (Go.Sort.onCells (Go.Sort.putCells id 0 (Go.Sort.flatK (encS s) 2 dk))) ++ os)[k]? = _
    rw [Array.getElem?_append_left hk', Array.getElem?_modify, if_neg (fun e => hn e.symm)]
theorem sort_blk {T : TypeId} {cur : Array Value} (h : Blk w blk T cur) (m : Nat) (dk : Array (SRt w base fs blk)) (os : Array Obj) : ∃ cur', Blk (sortWorldK (encS s) 2 w blk 0 m dk os) blk T cur' ∧ cur'.size = cur.size ∧ ∀ k, k < dk.size → ∀ r, r < 2 → k * 2 + r < cur.size → cur'[k * 2 + r]? = some ((encS s dk[k]!)[r]!) := by
  refine ⟨Go.Sort.putCells id 0 (Go.Sort.flatK (encS s) 2 dk) cur, ?_, by simp [Go.Sort.putCells], fun k hk r hr hc => ?_⟩
  · unfold Blk at h ⊢
    have hb : blk < (w.heap.modify blk (Go.Sort.onCells (Go.Sort.putCells id 0 (Go.Sort.flatK (encS s) 2 dk)))).size := by
      have := (Array.getElem?_eq_some_iff.1 h).1
      simpa using this
    show (w.heap.modify blk (Go.Sort.onCells (Go.Sort.putCells id 0 (Go.Sort.flatK (encS s) 2 dk))) ++ os)[blk]? = _
    rw [Array.getElem?_append_left hb, Array.getElem?_modify, if_pos rfl, h]
    simp [Go.Sort.onCells]
  · unfold Go.Sort.putCells
    have hlt : k * 2 + r < dk.size * 2 := by omega
    rw [Array.getElem?_mapIdx, Array.getElem?_eq_getElem hc, Option.map_some, if_pos ⟨Nat.zero_le _, by rw [Go.Sort.size_flatK]; omega⟩, Nat.sub_zero, Go.Sort.get_flatK _ _ _ _ hlt]
    rw [show (k * 2 + r) / 2 = k by omega, show (k * 2 + r) % 2 = r by omega]
    rfl
end
section
variable {w0 w : World} {L : List Thing} {base n c nn cc m d gn : Nat} {A B B' : Option Addr} {ss : List (Int × Sl)} {rows : List (Int × List Int)} {xs : List ByteArray} {fs : List Fib} {s : Int}
theorem SRt.rtIs {g : Nat} {W : World} (x : SRt w base fs g) (ht : Touch (fun b => b = g) w W) : RtIs W x.sl.A x.ids.length x.sl.c x.ids ∧ x.sl.n = x.ids.length := by
  have ho : Owns elInt W base 3 (slV x.sl) x.ids := x.own.touch ht (fun g' hg' e => x.far g' hg' e)
  obtain ⟨A', c', hv, hc, _, hs⟩ := ho.form
  unfold slV at hv
  injection hv with e1 e2 e3
  refine ⟨⟨⟨by rw [e3]; exact hc, x.le⟩, ?_⟩, e2⟩
  rw [e1]
  exact hs
set_option maxHeartbeats 1000000 in
set_option maxRecDepth 100000 in
theorem sortRoutes_led (h : Led w0 w L) (i : Nat) (hi : L[i]? = some (tRS base (.slice A n c) ss rows)) (hbx : Blk w gn 27 #[.slice B nn cc, .slice B' m d]) (hgx : ∀ g, (Value.slice A n c).ownBlock = some g → gn ≠ g) (hn : NetIs w0 B nn cc B' m d xs fs) (hl : ∀ f ∈ fs, 0 ≤ f.len ∧ f.len ≤ 5000)
    (hr : ∀ r ∈ rows, r.1 = s ∧ r.2.length ≤ 1048576 ∧ ∀ x ∈ r.2, 0 ≤ x ∧ x < fs.length) (hnn : n ≤ 1099511627776) :
    Calls Try.prog 124 #[.slice A n c, .func (.func 125) #[] #[.pointer (some ⟨gn, 0, none⟩)]] w fun e w' => e = .returned (.tuple #[]) ∧
      ∃ ss' rows', rows'.Perm rows ∧ rows'.Pairwise (fun a b => leR fs s a.2 b.2) ∧ Led w0 w' (L.set i (tRS base (.slice A n c) ss' rows')) := by
  have hsn := rs_n h i hi
  have hrl := rs_rows h i hi
  have hO : OwnsRS w base (.slice A n c) ss rows := h.get i hi
  have hset : L.set i (tRS base (.slice A n c) ss rows) = L := by
    obtain ⟨hl2, he⟩ := List.getElem?_eq_some_iff.1 hi
    rw [← he]; exact List.set_getElem_self hl2
  rcases Nat.eq_zero_or_pos n with h0 | hpos
  · subst h0
    have hr0 : rows = [] := List.eq_nil_of_length_eq_zero hrl
    have hz := AnyF.slices_SortFunc_none Try.sortR A c (.func (.func 125) #[] #[.pointer (some ⟨gn, 0, none⟩)]) w
    refine Calls.mono hz ?_
    rintro e w' ⟨rfl, rfl⟩
    refine ⟨rfl, ss, rows, List.Perm.refl _, by rw [hr0]; exact List.Pairwise.nil, ?_⟩
    rw [hset]; exact h
  · rcases hO.1.cases with ⟨_, h0⟩ | ⟨g, c1, cur, hv, hbase, hblk, hnc, hcm, hcs, hfl⟩
    · rw [h0] at hsn; simp at hsn; omega
    · rw [hsn] at hv hnc hfl
      injection hv with e1 e2 e3
      subst e1
      subst e3
      have key : ∀ k : Nat, k < n → ∃ x : SRt w base fs g, ss[k]? = some (s, x.sl) ∧ rows[k]? = some (s, x.ids) := by
        intro k hk
        obtain ⟨r, hrk⟩ := get_of (k := k) hrl hk
        obtain ⟨t, htk⟩ := get_of (k := k) hsn hk
        obtain ⟨h1, h2⟩ := hO.2.2.1 k t r htk hrk
        obtain ⟨h3, h4, h5⟩ := hr r (List.mem_of_getElem? hrk)
        refine ⟨⟨t.2, r.2, h2, h4, h5, fun g' hg' e => ?_⟩, ?_, ?_⟩
        · exact owns_ne h2 hO.1 (by decide) g rfl (by rw [← e]; exact hg')
        · rw [htk, ← h3, ← h1]
        · rw [hrk, ← h3]
      obtain ⟨x0, _, _⟩ := key 0 hpos
      letI : Inhabited (SRt w base fs g) := ⟨x0⟩
      obtain ⟨f, hf⟩ := Go.Deep.choose_lt key
      obtain ⟨D, hD⟩ : ∃ D : Array (SRt w base fs g), D = ((List.range n).map f).toArray := ⟨_, rfl⟩
      have hDs : D.size = n := by rw [hD]; simp
      have hDl : D.toList = (List.range n).map f := by rw [hD]
      have hss : ss = D.toList.map fun x => (s, x.sl) := by
        refine List.ext_getElem? fun k => ?_
        rw [hDl, List.map_map, List.getElem?_map]
        rcases Nat.lt_or_ge k n with hk | hk
        · rw [List.getElem?_range hk, (hf k hk).1]; rfl
        · rw [List.getElem?_eq_none (by omega), List.getElem?_eq_none (by simp; omega)]; rfl
      have hrw : rows = D.toList.map fun x => (s, x.ids) := by
        refine List.ext_getElem? fun k => ?_
        rw [hDl, List.map_map, List.getElem?_map]
        rcases Nat.lt_or_ge k n with hk | hk
        · rw [List.getElem?_range hk, (hf k hk).2]; rfl
        · rw [List.getElem?_eq_none (by omega), List.getElem?_eq_none (by simp; omega)]; rfl
      have hH : Go.Sort.HoldsK (encS s) 2 w g 0 D := by
        intro t ht
        rw [Go.Sort.size_flatK] at ht
        refine ⟨?_, by rw [Nat.zero_add]; exact hblk.frozen t⟩
        rw [Nat.zero_add, Go.Sort.get_flatK _ _ _ _ ht]
        have hk : t / 2 < n := by omega
        have h1 := hfl (t / 2) _ hk (by rw [(hf (t / 2) hk).1])
        have hDk : D[t / 2]! = f (t / 2) := by rw [hD]; simp [hk]
        rw [hDk, hblk.cell]
        have h2 := h1 (t % 2)
        rcases Nat.lt_or_ge (t % 2) 1 with h3 | h3
        · have h4 : t % 2 = 0 := by omega
          have h5 := h2 (.int .i64 s) (by rw [h4]; rfl)
          rw [show t / 2 * elRt.sz + t % 2 = t by show t / 2 * 2 + t % 2 = t; omega] at h5
          rw [h5, h4]; rfl
        · have h4 : t % 2 = 1 := by omega
          have h5 := h2 (slV (f (t / 2)).sl) (by rw [h4]; rfl)
          rw [show t / 2 * elRt.sz + t % 2 = t by show t / 2 * 2 + t % 2 = t; omega] at h5
          rw [h5, h4]; rfl
      have hgn : gn ≠ g := hgx g rfl
      have hC : CmpLays Try.prog 125 #[.pointer (some ⟨gn, 0, none⟩)] (encS s) 2 (cfS (w := w) (base := base) (fs := fs) (blk := g) s) g 0 D.size w := by
        intro q os dk _ x y
        have ht := sort_touch (s := s) (blk := g) (w := w) q dk os
        obtain ⟨hx, hxn⟩ := x.rtIs ht
        obtain ⟨hy, hyn⟩ := y.rtIs ht
        have hbl : Below w0.heap.size w0 (sortWorldK (encS s) 2 w g 0 q dk os) := h.bl.trans (ht.below (B := w0.heap.size) (fun b e => by rw [e]; exact (h.all i _ hi).2 g (.inl rfl)) h.bl.size)
        have hbx2 := hbx.touch ht hgn
        have hc := routesCmp_grw (gn := gn) (s := s) (t := s) _ (hn.grow hbl) (fun i v hv => by rw [hbx2.cell]; exact hv) hx hy hl x.ok y.ok
        have e1 : (encS s x).toArray = #[.int .i64 s, .slice x.sl.A x.ids.length x.sl.c] := by unfold encS slV; rw [hxn]
        have e2 : (encS s y).toArray = #[.int .i64 s, .slice y.sl.A y.ids.length y.sl.c] := by unfold encS slV; rw [hyn]
        rw [e1, e2]
        exact hc
      have hcall := AnyQ.slices_SortFunc Try.sortR 2 Try.isAgg35 Try.sizeOf35 (encS s) (fun _ => rfl) (fun x v hv => by simp [encS] at hv; rcases hv with rfl | rfl <;> rfl) (cfS (w := w) (base := base) (fs := fs) (blk := g) s) swoS 125 #[.pointer (some ⟨gn, 0, none⟩)] g 0 c D w (fun _ _ => by rfl) hC hH hblk.lt (by omega)
      rw [hDs] at hcall
      refine Calls.mono hcall ?_
      rintro e w' ⟨rfl, d', q, os, hp, hsrt, rfl⟩
      have hsz : d'.size = n := by rw [hp.1, hDs]
      have hperm : d'.toList.Perm D.toList := by
        have h1 := hp.2.2
        rw [← hsz] at h1
        have h2 : d'.extract 0 d'.size = d' := by simp
        have h3 : D.extract 0 d'.size = D := by rw [hsz, ← hDs]; simp
        rw [h2, h3] at h1
        exact h1
      have hget : ∀ k, k < n → ∃ x : SRt w base fs g, d'.toList[k]? = some x ∧ d'[k]! = x ∧ x ∈ D.toList := by
        intro k hk
        have hk2 : k < d'.size := by omega
        refine ⟨d'[k], by simp [hk2], by simp [hk2], hperm.mem_iff.1 (by simp)⟩
      have ht := sort_touch (s := s) (blk := g) (w := w) q d' os
      obtain ⟨cur', hblk', hcs', hcur⟩ := sort_blk (s := s) hblk q d' os
      have hdl : d'.toList.length = n := by simp [hsz]
      refine ⟨rfl, d'.toList.map fun x => (s, x.sl), d'.toList.map fun x => (s, x.ids), ?_, ?_, ?_⟩
      · rw [hrw]; exact hperm.map _
      · rw [List.pairwise_map, List.pairwise_iff_getElem]
        intro a b ha hb hab
        have ha' : a < n := by omega
        have hb' : b < n := by omega
        have h1 := hsrt a b (Nat.zero_le _) hab hb'
        rw [ltS_f] at h1
        have e1 : d'[a]! = d'.toList[a] := by simp [hsz, ha']
        have e2 : d'[b]! = d'.toList[b] := by simp [hsz, hb']
        rw [e1, e2] at h1
        exact h1
      · have hS : rsS (.slice (some ⟨g, 0, none⟩) n c) (d'.toList.map fun x => (s, x.sl)) = rsS (.slice (some ⟨g, 0, none⟩) n c) ss := by
          funext b
          apply propext
          have hm : ∀ t : Int × Sl, t ∈ (d'.toList.map fun x => (s, x.sl)) ↔ t ∈ ss := fun t => by rw [hss]; exact (hperm.map _).mem_iff
          unfold rsS
          constructor
          · rintro (e | ⟨i, t, hti, e⟩)
            · exact .inl e
            · obtain ⟨i', hi'⟩ := List.getElem?_of_mem ((hm t).1 (List.mem_of_getElem? hti))
              exact .inr ⟨i', t, hi', e⟩
          · rintro (e | ⟨i, t, hti, e⟩)
            · exact .inl e
            · obtain ⟨i', hi'⟩ := List.getElem?_of_mem ((hm t).2 (List.mem_of_getElem? hti))
              exact .inr ⟨i', t, hi', e⟩
        refine h.touch i hi hS (ht.mono fun b hb => .inl (by rw [hb]; rfl)) ?_
        refine ⟨?_, by simp, fun k t r h1 h2 => ?_, fun a b t t' g' hab h1 h2 h3 h4 => ?_⟩
        · refine Owns.of_blk hblk' hbase (by rw [List.length_map, hdl]) hnc (by rw [hcs', hcs]) hcm (fun k t hk htk i u hu => ?_)
          obtain ⟨x, hx1, hx2, _⟩ := hget k hk
          rw [List.getElem?_map, hx1] at htk
          injection htk with htk
          subst htk
          have hi2 : i < 2 := by have := (List.getElem?_eq_some_iff.1 hu).1; rw [elRt.len] at this; exact this
          have hcc : cur.size = c * 2 := hcs
          have h3 := hcur k (by omega) i hi2 (by omega)
          rw [hx2] at h3
          show cur'[k * 2 + i]? = some u
          rw [h3]
          have hu' : (encS s x)[i]? = some u := hu
          congr 1
          rw [List.getElem!_eq_getElem?_getD, hu']
          rfl
        · have hk : k < n := by have := (List.getElem?_eq_some_iff.1 h1).1; rw [List.length_map, hdl] at this; exact this
          obtain ⟨x, hx1, _, _⟩ := hget k hk
          rw [List.getElem?_map, hx1] at h1 h2
          injection h1 with h1
          injection h2 with h2
          subst h1
          subst h2
          exact ⟨rfl, x.own.touch ht (fun g' hg' e => x.far g' hg' e)⟩
        · have hP : D.toList.Pairwise fun x y => ∀ g', (slV x.sl).ownBlock = some g' → ¬ (slV y.sl).ownBlock = some g' := by
            rw [List.pairwise_iff_getElem]
            intro a b ha hb hab g' e1 e2
            have ea : ss[a]? = some (s, D.toList[a].sl) := by rw [hss, List.getElem?_map, List.getElem?_eq_getElem ha]; rfl
            have eb : ss[b]? = some (s, D.toList[b].sl) := by rw [hss, List.getElem?_map, List.getElem?_eq_getElem hb]; rfl
            exact hO.2.2.2 a b _ _ g' hab ea eb e1 e2
          have hP2 := hP.perm hperm.symm (fun {x y} hxy g' e1 e2 => hxy g' e2 e1)
          rw [List.pairwise_iff_getElem] at hP2
          rw [List.getElem?_map] at h1 h2
          obtain ⟨x, hx1, hx2⟩ := Option.map_eq_some_iff.1 h1
          obtain ⟨y, hy1, hy2⟩ := Option.map_eq_some_iff.1 h2
          subst hx2
          subst hy2
          obtain ⟨ha, ea⟩ := List.getElem?_eq_some_iff.1 hx1
          obtain ⟨hb, eb⟩ := List.getElem?_eq_some_iff.1 hy1
          have := hP2 a b ha hb hab g'
          rw [ea, eb] at this
          exact this h3 h4
end
end Go.Proofs.Ytfepilpllfiegaa
/- Routes put one after another each at its place: a sorted list, in plain Lean. Conditions: none. -/
namespace Go.Proofs.Ytfepilpllfiegaa
open Go.RowKit
section
variable {fs : List Fib} {s : Int}
/-- The place of a route among the first k. -/
def plcR (fs : List Fib) (s : Int) (l : List (List Int)) (r : List Int) : Nat → Nat
  | 0 => 0
  | k + 1 => if ordR fs s r s (l.getD k []) < 0 then plcR fs s l r k else k + 1
def insR (fs : List Fib) (s : Int) (l : List (List Int)) (r : List Int) : List (List Int) := putAt l (plcR fs s l r l.length) r
theorem plcR_le (l : List (List Int)) (r : List Int) : ∀ k, plcR fs s l r k ≤ k := by
  intro k
  induction k with
  | zero => exact Nat.le_refl _
  | succ k ih =>
    rw [plcR]
    split
    · omega
    · exact Nat.le_refl _
theorem plcR_back (l : List (List Int)) (r : List Int) : ∀ k j e, k ≤ l.length → plcR fs s l r k ≤ j → j < k → l[j]? = some e → leR fs s r e := by
  intro k
  induction k with
  | zero => intro j e _ _ h; omega
  | succ k ih =>
    intro j e hk hj hjk he
    rw [plcR] at hj
    split at hj
    · rename_i hlt
      rcases Nat.lt_or_ge j k with h | h
      · exact ih j e (by omega) hj h he
      · have : j = k := by omega
        subst this
        have hd : l.getD j [] = e := by rw [List.getD_eq_getElem?_getD, he]; rfl
        rw [hd] at hlt
        unfold leR; omega
    · omega
theorem plcR_front (l : List (List Int)) (r : List Int) : ∀ k, k ≤ l.length → plcR fs s l r k = 0 ∨ ∃ e, l[plcR fs s l r k - 1]? = some e ∧ leR fs s e r := by
  intro k
  induction k with
  | zero => intro _; exact .inl rfl
  | succ k ih =>
    intro hk
    rw [plcR]
    split
    · exact ih (by omega)
    · rename_i hlt
      have hkl : k < l.length := hk
      refine .inr ⟨l[k], by simp [hkl], ?_⟩
      have hd : l.getD k [] = l[k] := by rw [List.getD_eq_getElem?_getD, List.getElem?_eq_getElem hkl]; rfl
      rw [hd] at hlt
      exact leR_of_not hlt
theorem insR_len (l : List (List Int)) (r : List Int) : (insR fs s l r).length = l.length + 1 := putAt_len _ _ _
theorem insR_perm (l : List (List Int)) (r : List Int) : (insR fs s l r).Perm (r :: l) := putAt_perm _ _ _
theorem insR_sorted (l : List (List Int)) (r : List Int) (h : l.Pairwise (leR fs s)) : (insR fs s l r).Pairwise (leR fs s) :=
  place_ok (fun _ _ _ => leR_trans) h (plcR_le l r _) (fun j e hj he => plcR_back l r l.length j e (Nat.le_refl _) hj (List.getElem?_eq_some_iff.1 he).1 he) (plcR_front l r l.length (Nat.le_refl _))
/-- All routes, sorted. -/
def srtR (fs : List Fib) (s : Int) (D : List (List Int)) : List (List Int) := D.foldl (insR fs s) []
theorem srtR_ok (D : List (List Int)) : (srtR fs s D).Pairwise (leR fs s) ∧ (srtR fs s D).Perm D := by
  have h := fold_put (le := leR fs s) (ins := insR fs s) insR_perm insR_sorted D [] List.Pairwise.nil
  rw [List.append_nil] at h
  exact h
/-- Whoever sorted them. -/
theorem srtR_one {D l : List (List Int)} (h1 : l.Pairwise (leR fs s)) (h2 : l.Perm D) : l = srtR fs s D :=
  sorted_one (fun _ _ => leR_anti) h1 (srtR_ok D).1 (h2.trans (srtR_ok D).2.symm)
theorem srtR_rows {D : List (List Int)} {rows : List (Int × List Int)} (h1 : rows.Pairwise (fun a b => leR fs s a.2 b.2)) (h2 : rows.Perm (D.map fun r => (s, r))) : rows = (srtR fs s D).map fun r => (s, r) := by
  have h3 : rows.map (·.2) = srtR fs s D := by
    refine srtR_one ?_ ?_
    · rw [List.pairwise_map]; exact h1
    · have := h2.map (·.2)
      rw [List.map_map] at this
      have e : ((fun x : Int × List Int => x.2) ∘ fun r : List Int => (s, r)) = id := rfl
      rw [e, List.map_id] at this
      exact this
  have h4 : ∀ a ∈ rows, a.1 = s := fun a ha => by
    obtain ⟨r, _, rfl⟩ := List.mem_map.1 (h2.mem_iff.1 ha)
    rfl
  rw [← h3, List.map_map]
  have : rows.map ((fun r : List Int => (s, r)) ∘ fun x : Int × List Int => x.2) = rows.map id := by
    refine List.map_congr_left fun a ha => ?_
    show (s, a.2) = a
    rw [← h4 a ha]
  rw [this, List.map_id]
end
end Go.Proofs.Ytfepilpllfiegaa
/- l4Search.put of the reference, walked. Conditions: none. By put.py. -/
namespace Go.Proofs.Ytfepilpllfiegaa
open Go.RowKit
/-- Three things as one. -/
theorem Led.fuse3 {w0 w : World} {a b c t : Thing} {R : List Thing} (h : Led w0 w (a :: b :: c :: R)) (hS : ∀ k, t.S k → a.S k ∨ b.S k ∨ c.S k) (his : t.is w) : Led w0 w (t :: R) := by
  refine ⟨h.bl, fun i u hu => ?_, fun i j u v hij hu hv k h1 h2 => ?_⟩
  · match i, hu with
    | 0, hu =>
      injection hu with hu; subst hu
      refine ⟨his, fun k hk => ?_⟩
      rcases hS k hk with e | e | e
      · exact (h.all 0 a rfl).2 k e
      · exact (h.all 1 b rfl).2 k e
      · exact (h.all 2 c rfl).2 k e
    | i + 1, hu => exact h.all (i + 3) u (by simpa using hu)
  · have key : ∀ (i : Nat) u, R[i]? = some u → ∀ k, t.S k → ¬ u.S k := fun i u hu k hk h2 => by
      rcases hS k hk with e | e | e
      · exact h.apart 0 (i + 3) a u (by omega) rfl (by simpa using hu) k e h2
      · exact h.apart 1 (i + 3) b u (by omega) rfl (by simpa using hu) k e h2
      · exact h.apart 2 (i + 3) c u (by omega) rfl (by simpa using hu) k e h2
    match i, j, hu, hv with
    | 0, 0, hu, hv => exact hij rfl
    | 0, j + 1, hu, hv =>
      injection hu with hu; subst hu
      exact key j v (by simpa using hv) k h1 h2
    | i + 1, 0, hu, hv =>
      injection hv with hv; subst hv
      exact key i u (by simpa using hu) k h2 h1
    | i + 1, j + 1, hu, hv => exact h.apart (i + 3) (j + 3) u v (by omega) (by simpa using hu) (by simpa using hv) k h1 h2
theorem Led.front {w0 w : World} {P R : List Thing} (h : Led w0 w (P ++ R)) (is : List Nat) (hn : is.Nodup) (he : is.all (fun i => decide (i < P.length)) = true) : Led w0 w ((is.filterMap fun i => P[i]?) ++ R) := by
  have hm : is.map (fun i => P[i]?) = (is.filterMap fun i => P[i]?).map some := by
    clear hn
    induction is with
    | nil => rfl
    | cons x is ih =>
      rw [List.all_cons, Bool.and_eq_true, decide_eq_true_eq] at he
      rw [List.map_cons, List.filterMap_cons, List.getElem?_eq_getElem he.1, ih he.2]
      rfl
  have hlen : (is.filterMap fun i => P[i]?).length = is.length := by have := congrArg List.length hm; simp at this; omega
  have hlt : ∀ i, i < is.length → is.getD i 0 < P.length := fun i hi => by
    have := List.all_eq_true.1 he (is.getD i 0) (by rw [List.getD_eq_getElem?_getD, List.getElem?_eq_getElem hi]; exact List.getElem_mem hi)
    exact of_decide_eq_true this
  refine h.reidx (fun i => if i < is.length then is.getD i 0 else i - is.length + P.length) (fun i j hij => ?_) (fun i t hi => ?_)
  · show (if i < is.length then is.getD i 0 else i - is.length + P.length) ≠ (if j < is.length then is.getD j 0 else j - is.length + P.length)
    split
    · rename_i h1
      split
      · rename_i h2
        intro e
        rw [List.getD_eq_getElem?_getD, List.getD_eq_getElem?_getD, List.getElem?_eq_getElem h1, List.getElem?_eq_getElem h2] at e
        have e2 : is[i] = is[j] := e
        exact hij ((List.getElem?_inj h1 hn).1 (by rw [List.getElem?_eq_getElem h1, List.getElem?_eq_getElem h2, e2]))
      · have := hlt i h1; omega
    · split
      · rename_i h2
        have := hlt j h2; omega
      · omega
  · rcases Nat.lt_or_ge i is.length with h1 | h1
    · rw [if_pos h1, List.getElem?_append_left (hlt i h1)]
      rw [List.getElem?_append_left (by omega)] at hi
      have h2 : (is.map (fun i => P[i]?))[i]? = some (some t) := by rw [hm, List.getElem?_map, hi]; rfl
      rw [List.getElem?_map, List.getElem?_eq_getElem h1] at h2
      injection h2 with h2
      rw [List.getD_eq_getElem?_getD, List.getElem?_eq_getElem h1]
      exact h2
    · rw [if_neg (by omega), List.getElem?_append_right (by omega), show i - is.length + P.length - P.length = i - is.length by omega]
      rw [List.getElem?_append_right (by omega), hlen] at hi
      exact hi
theorem putAt_map {α β : Type} (f : α → β) (l : List α) (p : Nat) (r : α) : (putAt l p r).map f = putAt (l.map f) p (f r) := by
  unfold putAt
  rw [List.map_append, List.map_cons, List.map_take, List.map_drop]
theorem putAt_get {α : Type} {l : List α} {p i : Nat} {r x : α} (hp : p ≤ l.length) (h : (putAt l p r)[i]? = some x) : (i < p ∧ l[i]? = some x) ∨ (i = p ∧ x = r) ∨ (p < i ∧ l[i - 1]? = some x) := by
  unfold putAt at h
  have hl : (l.take p).length = p := by rw [List.length_take]; omega
  rcases Nat.lt_trichotomy i p with h1 | h1 | h1
  · rw [List.getElem?_append_left (by omega), List.getElem?_take, if_pos h1] at h
    exact .inl ⟨h1, h⟩
  · rw [List.getElem?_append_right (by omega), hl, h1, Nat.sub_self] at h
    simp at h
    exact .inr (.inl ⟨h1, h.symm⟩)
  · rw [List.getElem?_append_right (by omega), hl] at h
    obtain ⟨d, hd⟩ : ∃ d, i - p = d + 1 := ⟨i - p - 1, by omega⟩
    rw [hd, List.getElem?_cons_succ, List.getElem?_drop] at h
    exact .inr (.inr ⟨h1, by rw [show i - 1 = p + d by omega]; exact h⟩)
/-- A new row that holds the old routes and one more. -/
theorem Led.relist {w0 w : World} {base b b2 : Nat} {V V2 : Value} {ss : List (Int × Sl)} {rows : List (Int × List Int)} {s0 : Int × Sl} {r0 : Int × List Int} {p : Nat} {R : List Thing} (h : Led w0 w (tOwns elRt b2 35 V2 (putAt ss p s0) :: tOwns elInt b 3 (slV s0.2) r0.2 :: tRS base V ss rows :: R)) (hp : p ≤ ss.length) (h0 : s0.1 = r0.1) (hb : base ≤ b) (hb2 : base ≤ b2) :
    Led w0 w (tRS base V2 (putAt ss p s0) (putAt rows p r0) :: R) := by
  have hO : OwnsRS w base V ss rows := h.get 2 rfl
  have hN : Owns elRt w b2 35 V2 (putAt ss p s0) := h.get 0 rfl
  have hR : Owns elInt w b 3 (slV s0.2) r0.2 := h.get 1 rfl
  have ap : ∀ (i : Nat) s g, ss[i]? = some s → (slV s.2).ownBlock = some g → ¬ (slV s0.2).ownBlock = some g := fun i s g hs hg e => h.apart 2 1 _ _ (by decide) rfl rfl g (.inr ⟨i, s, hs, hg⟩) e
  refine h.fuse3 (fun k hk => ?_) ⟨hN.base hb2, by rw [putAt_len, putAt_len, hO.2.1], fun i s r h1 h2 => ?_, fun i j s t g hij h1 h2 h3 h4 => ?_⟩
  · rcases hk with hk | ⟨i, s, hs, hk⟩
    · exact .inl hk
    · rcases putAt_get hp hs with ⟨_, e⟩ | ⟨_, e⟩ | ⟨_, e⟩
      · exact .inr (.inr (.inr ⟨i, s, e, hk⟩))
      · subst e; exact .inr (.inl hk)
      · exact .inr (.inr (.inr ⟨i - 1, s, e, hk⟩))
  · have hp2 : p ≤ rows.length := by rw [← hO.2.1]; exact hp
    rcases putAt_get hp h1 with ⟨a1, e⟩ | ⟨a1, e⟩ | ⟨a1, e⟩
    · rcases putAt_get hp2 h2 with ⟨_, e2⟩ | ⟨a2, _⟩ | ⟨a2, _⟩
      · exact hO.2.2.1 i s r e e2
      · omega
      · omega
    · rcases putAt_get hp2 h2 with ⟨a2, _⟩ | ⟨_, e2⟩ | ⟨a2, _⟩
      · omega
      · subst e; subst e2; exact ⟨h0, hR.base hb⟩
      · omega
    · rcases putAt_get hp2 h2 with ⟨a2, _⟩ | ⟨a2, _⟩ | ⟨_, e2⟩
      · omega
      · omega
      · exact hO.2.2.1 (i - 1) s r e e2
  · rcases putAt_get hp h1 with ⟨a1, e⟩ | ⟨a1, e⟩ | ⟨a1, e⟩
    · rcases putAt_get hp h2 with ⟨a2, e2⟩ | ⟨a2, e2⟩ | ⟨a2, e2⟩
      · exact hO.2.2.2 i j s t g hij e e2 h3 h4
      · subst e2; exact ap i s g e h3 h4
      · exact hO.2.2.2 i (j - 1) s t g (by omega) e e2 h3 h4
    · rcases putAt_get hp h2 with ⟨a2, e2⟩ | ⟨a2, e2⟩ | ⟨a2, e2⟩
      · omega
      · omega
      · subst e; exact ap (j - 1) t g e2 h4 h3
    · rcases putAt_get hp h2 with ⟨a2, e2⟩ | ⟨a2, e2⟩ | ⟨a2, e2⟩
      · omega
      · omega
      · exact hO.2.2.2 (i - 1) (j - 1) s t g (by omega) e e2 h3 h4
theorem Led.seesRS {w0 w : World} {L : List Thing} {base n c : Nat} {A : Option Addr} {ss : List (Int × Sl)} {rows : List (Int × List Int)} (h : Led w0 w L) (i : Nat) (hi : L[i]? = some (tRS base (.slice A n c) ss rows)) : Sees elRt w w.heap.size A n ss := by
  have h1 : OwnsRS w base _ ss rows := h.get i hi
  have h2 := h1.sees.1
  rw [rs_n h i hi] at h2
  exact h2
theorem Sees.backR {α : Type} {E : El α} {w : World} {B b o n k : Nat} {l : List α} (h : Sees E w B (some ⟨b, o, none⟩) n l) (hk : k ≤ n) : Sees E w B (some ⟨b, o + k * E.sz, none⟩) (n - k) (l.drop k) := by
  refine ⟨by rw [List.length_drop, h.1], ?_⟩
  rcases h.2 with h0 | ⟨b', o', e, hb, hc⟩
  · exact .inl (by omega)
  · injection e with e
    injection e with e1 e2
    subst e1 e2
    refine .inr ⟨b, _, rfl, hb, fun j x hx i u hu => ?_⟩
    rw [List.getElem?_drop] at hx
    have h1 := hc (k + j) x hx i u hu
    have e : o + (k + j) * E.sz + i = o + k * E.sz + j * E.sz + i := by rw [Nat.add_mul]; omega
    rw [← e]; exact h1
theorem Sees.backZ {α : Type} {E : El α} {w : World} {B n k : Nat} {A A2 : Option Addr} {l : List α} (h : Sees E w B A n l) (hk : n - k = 0) : Sees E w B A2 0 (l.drop k) :=
  ⟨by rw [List.length_drop, h.1, hk], .inl rfl⟩
theorem sees_rt {w : World} {g : Nat} {s : Int} {B : Option Addr} {k e : Nat} (h : Blk w g 35 #[.int .i64 s, .slice B k e]) : Sees elRt w w.heap.size (some ⟨g, 0, none⟩) 1 [(s, (⟨B, k, e⟩ : Sl))] := by
  refine ⟨rfl, .inr ⟨g, 0, rfl, h.lt, fun j y hy i u hu => ?_⟩⟩
  have hj : j = 0 := by have := (List.getElem?_eq_some_iff.1 hy).1; simp at this; omega
  subst hj
  simp at hy; subst hy
  have hu' : [Value.int .i64 s, .slice B k e][i]? = some u := hu
  show w.cell? ⟨g, 0 + 0 * 2 + i, none⟩ = some u
  rw [show 0 + 0 * 2 + i = i by omega, h.cell]
  simpa using hu'
section
variable {w0 : World} {n c m d gx : Nat} {A A' : Option Addr} {xs : List ByteArray} {fs : List Fib} {s to : Nat}
def srX (A : Option Addr) (n c : Nat) (A' : Option Addr) (m d to : Nat) (V : Value) : Array Value := #[.slice A n c, .slice A' m d, .int .i64 (to : Int), V]
/-- The boxes of put stand. -/
def ptS (w0 : World) (gx gr : Nat) (A : Option Addr) (n c : Nat) (A' : Option Addr) (m d to s : Nat) (V : Value) (B : Option Addr) (k e : Nat) (w' : World) : Prop := Led w0 w' [tBlk gr 35 #[.int .i64 (s : Int), .slice B k e], tBlk gx 133 (srX A n c A' m d to V)]
theorem ptS_of {w : World} {L : List Thing} {gr k e : Nat} {V : Value} {B : Option Addr} (h : Led w0 w L) (i j : Nat) (hi : L[i]? = some (tBlk gr 35 #[.int .i64 (s : Int), .slice B k e])) (hj : L[j]? = some (tBlk gx 133 (srX A n c A' m d to V))) (hij : i ≠ j) : ptS w0 gx gr A n c A' m d to s V B k e w :=
  h.reidx (fun q => if q = 0 then i else if q = 1 then j else q + i + j) (fun p q hpq => by
    show (if p = 0 then i else if p = 1 then j else p + i + j) ≠ (if q = 0 then i else if q = 1 then j else q + i + j)
    repeat' split
    all_goals omega) (fun q t hq => by
    match q, hq with
    | 0, hq => injection hq with hq; subst hq; exact hi
    | 1, hq => injection hq with hq; subst hq; exact hj
    | q + 2, hq => simp at hq)
theorem mem_ptS {w : World} {gr k e : Nat} {V : Value} {B : Option Addr} {x y : Thing} {R : List Thing} (h : Led w0 w (tBlk gr 35 #[.int .i64 (s : Int), .slice B k e] :: x :: y :: tBlk gx 133 (srX A n c A' m d to V) :: R)) : ptS w0 gx gr A n c A' m d to s V B k e w :=
  h.reidx (fun i => if i = 0 then 0 else i + 2) (fun i j hij => by
    show (if i = 0 then 0 else i + 2) ≠ (if j = 0 then 0 else j + 2)
    repeat' split
    all_goals omega) (fun i t hi => by
    match i, hi with
    | 0, hi => exact hi
    | 1, hi => exact hi
    | i + 2, hi => simp at hi)
set_option maxHeartbeats 8000000 in
set_option maxRecDepth 100000 in
theorem put_any (hn : NetIs w0 A n c A' m d xs fs) (hG : goodB xs fs = true) (hs8 : s ≤ 1048576) {l : List (List Int)} {ids : List Int} {V : Value} {ss : List (Int × Sl)} {R : List Thing} {B : Option Addr} {e b : Nat} {w : World} (hids : ids.length ≤ 1048576 ∧ ∀ x ∈ ids, 0 ≤ x ∧ x < fs.length) (hll : l.length ≤ 1048576) (hl : ∀ r ∈ l, r.length ≤ 1048576 ∧ ∀ x ∈ r, 0 ≤ x ∧ x < fs.length) (hbb : w0.heap.size ≤ b)
    (h : Led w0 w (tOwns elInt b 3 (.slice B ids.length e) ids :: tRS w0.heap.size V ss (l.map fun r => ((s : Int), r)) :: tBlk gx 133 (srX A n c A' m d to V) :: R)) :
    Calls Try.prog 156 #[.pointer (some ⟨gx, 0, none⟩), .agg #[.int .i64 (s : Int), .slice B ids.length e]] w fun e' w' => e' = .returned (.tuple #[]) ∧
      ∃ V' ss', Led w0 w' (tRS w0.heap.size V' ss' ((insR fs (s : Int) l ids).map fun r => ((s : Int), r)) :: tBlk gx 133 (srX A n c A' m d to V') :: R) := by
  obtain ⟨he, hn0, hn8, hm14⟩ := good_parts hn hG
  have hO : OwnsRS w w0.heap.size V ss (l.map fun r => ((s : Int), r)) := h.get 1 rfl
  obtain ⟨AV, cV, hV, hcV, _, hSV⟩ := hO.1.form
  have hsl : ss.length = l.length := by rw [hO.2.1, List.length_map]
  rw [hsl] at hV hcV hSV
  subst hV
  have H0 := hid (h.blk_ w.heap.size rfl 35 #[.int .i64 (s : Int), .slice B ids.length e])
  have HN := hid hn
  have HG := hid hG
  have HSV := hid hSV
  have HSL := hid hsl
  have HIDS := hid hids.2
  have HL := hid hl
  have hi1 := hids.1
  have HO := hid hO
  clear h hn hO hSV hsl hids hl he hG
  unfold srX at H0
  have p3 := H0.out.cell 3 3 rfl rfl
  go_enter Try.func156, Try.ntmps156
  go_wp2_with fail
  clear p3
  go_loopw [4] (fun i wr => ∃ p : Nat, p ≤ l.length ∧ i = .int .i64 p ∧ Hid (plcR fs (s : Int) l ids p = plcR fs (s : Int) l ids l.length) ∧ Hid (Led w0 wr (tBlk w.heap.size 35 #[.int .i64 (s : Int), .slice B ids.length e] :: tOwns elInt b 3 (.slice B ids.length e) ids :: tRS w0.heap.size (.slice AV l.length cV) ss (l.map fun r => ((s : Int), r)) :: tBlk gx 133 #[.slice A n c, .slice A' m d, .int .i64 (to : Int), .slice AV l.length cV] :: R))) (fun i _ => (intOf i).toNat)
  case atStart => exact ⟨l.length, Nat.le_refl _, rfl, rfl, H0⟩
  case round =>
    clear H0 HSV HO
    obtain ⟨p, hp, rfl, HP, HS⟩ := hrel
    have HQ : Hid (∀ w', Cls wr w' → Sees elRt w' w'.heap.size AV l.length ss) := fun w' h => (HS.out.step h).seesRS 2 rfl
    have C0 : ∀ w', Cls wr w' → w'.cell? ⟨w.heap.size, 0, none⟩ = some (.int .i64 (s : Int)) := fun _ h => h.cell (HS.out.cell 0 0 rfl rfl)
    have C1 : ∀ w', Cls wr w' → w'.cell? ⟨w.heap.size, 1, none⟩ = some (.slice B ids.length e) := fun _ h => h.cell (HS.out.cell 0 1 rfl rfl)
    have C2 : ∀ w', Cls wr w' → w'.cell? ⟨gx, 0, none⟩ = some (.slice A n c) := fun _ h => h.cell (HS.out.cell 3 0 rfl rfl)
    have C3 : ∀ w', Cls wr w' → w'.cell? ⟨gx, 1, none⟩ = some (.slice A' m d) := fun _ h => h.cell (HS.out.cell 3 1 rfl rfl)
    have C4 : ∀ w', Cls wr w' → w'.cell? ⟨gx, 3, none⟩ = some (.slice AV l.length cV) := fun _ h => h.cell (HS.out.cell 3 3 rfl rfl)
    rcases Nat.eq_zero_or_pos p with hp0 | hp0
    · subst hp0
      have HPL : Hid (plcR fs (s : Int) l ids l.length = 0) := by unfold Hid; rw [← HP.out]; rfl
      go_wp2_with fail
      refine region_cls (by kernel_rfl) (by kernel_rfl) ?_
      repeat (first
        | ((with_reducible refine quiet_pos ?_ (fun K hK => ?_))
           · rfl
           apply Exists.intro
           refine ⟨fun w' hw' => ?_, ?_⟩
           · go_simp
             with_reducible rfl
           simp only [Act.put, List.setIfInBounds_toArray, List.set_cons_zero, List.set_cons_succ]
           refine hK _ ?_; clear hK K)
        | ((with_reducible refine quiet_neg ?_ (fun K hK => ?_))
           · rfl
           simp only [Act.put, List.setIfInBounds_toArray, List.set_cons_zero, List.set_cons_succ]
           refine hK _ ?_; clear hK K))
      with_reducible refine wpQuiet_nil ?_
      intro wz hwz'
      have hs4 := HS.out.step hwz'
      have HS4 := hid hs4
      clear hs4 hwz' C0 C1 C2 C3 C4 HS
      go_wp2_with fail
      revert wz
      intro wq HS4
      have HP4 : Hid (0 ≤ l.length) := Nat.zero_le _
      have HPS : Hid (0 ≤ ss.length) := Nat.zero_le _
      have HT : Hid ((ss.take 0).length = 0) := rfl
      have HPU : Hid (putAt ss 0 ((s : Int), (⟨B, ids.length, e⟩ : Sl)) = ss.take 0 ++ [((s : Int), (⟨B, ids.length, e⟩ : Sl))] ++ ss.drop 0) := rfl
      have hbz := Below.refl 0 wq
      obtain ⟨i0, hi, hz0, hz1, hz2⟩ := info_parts rt_info
      have E0 : ∀ w', ptS w0 gx w.heap.size A n c A' m d to s (.slice AV l.length cV) B ids.length e w' → w'.cell? ⟨w.heap.size, 0, none⟩ = some (.int .i64 (s : Int)) := fun _ h => Led.cell h 0 0 rfl rfl
      have E1 : ∀ w', ptS w0 gx w.heap.size A n c A' m d to s (.slice AV l.length cV) B ids.length e w' → w'.cell? ⟨w.heap.size, 1, none⟩ = some (.slice B ids.length e) := fun _ h => Led.cell h 0 1 rfl rfl
      have E2 : ∀ w', ptS w0 gx w.heap.size A n c A' m d to s (.slice AV l.length cV) B ids.length e w' → w'.cell? ⟨gx, 3, none⟩ = some (.slice AV l.length cV) := fun _ h => Led.cell h 1 3 rfl rfl
      have HM := hid (mem_ptS (HS4.out.step (Cls.drew wq)))
      refine wp_region_heldX 21 (ptS w0 gx w.heap.size A n c A' m d to s (.slice AV l.length cV) B ids.length e) (by kernel_rfl) (HM.out) (fun hHeld => ?_)
      refine wpAnyX_take (i := 0) (oi := _) (v := ?_) rfl (by kernel_rfl) (by kernel_rfl) (by kernel_rfl) (by kernel_rfl) (fun _ _ _ h => h) (Or.inl ⟨by rfl, ?_⟩) (by assumption) ?_
      rotate_left
      · intro w hSw; go_simp; with_reducible rfl
      simp only [Act.put, List.getElem_toArray, List.getElem_cons_zero, List.setIfInBounds_toArray, List.set_cons_zero, List.set_cons_succ]
      refine wpAnyX_take (i := 2) (oi := _) (v := ?_) rfl (by kernel_rfl) (by kernel_rfl) (by kernel_rfl) (by kernel_rfl) (fun _ _ _ h => h) (Or.inl ⟨by rfl, ?_⟩) (by assumption) ?_
      rotate_left
      · intro w hSw; go_simp; with_reducible rfl
      simp only [Act.put, List.getElem_toArray, List.getElem_cons_zero, List.getElem_cons_succ, List.setIfInBounds_toArray, List.set_cons_zero, List.set_cons_succ]
      refine wpAnyX_take (i := 3) (oi := _) (v := ?_) rfl (by kernel_rfl) (by kernel_rfl) (by kernel_rfl) (by kernel_rfl) (fun _ _ _ h => h) (Or.inl ⟨by rfl, ?_⟩) (by assumption) ?_
      rotate_left
      · intro w hSw; go_simp; with_reducible rfl
      simp only [Act.put, List.getElem_toArray, List.getElem_cons_zero, List.getElem_cons_succ, List.setIfInBounds_toArray, List.set_cons_zero, List.set_cons_succ]
      refine wpAnyX_take (i := 4) (oi := _) (v := ?_) rfl (by kernel_rfl) (by kernel_rfl) (by kernel_rfl) (by kernel_rfl) (fun _ _ _ h => h) (Or.inl ⟨by rfl, ?_⟩) (by assumption) ?_
      rotate_left
      · intro w hSw; go_simp; with_reducible rfl
      simp only [Act.put, List.getElem_toArray, List.getElem_cons_zero, List.getElem_cons_succ, List.setIfInBounds_toArray, List.set_cons_zero, List.set_cons_succ]
      refine wpAnyX_take (i := 5) (oi := _) (v := ?_) rfl (by kernel_rfl) (by kernel_rfl) (by kernel_rfl) (by kernel_rfl) (fun _ _ _ h => h) (Or.inl ⟨by rfl, ?_⟩) (by assumption) ?_
      rotate_left
      · intro w hSw; go_simp; with_reducible rfl
      simp only [Act.put, List.getElem_toArray, List.getElem_cons_zero, List.getElem_cons_succ, List.setIfInBounds_toArray, List.set_cons_zero, List.set_cons_succ]
      refine wpAnyX_take (i := 6) (oi := _) (v := ?_) rfl (by kernel_rfl) (by kernel_rfl) (by kernel_rfl) (by kernel_rfl) (fun _ _ _ h => h) (Or.inl ⟨by rfl, ?_⟩) (by assumption) ?_
      rotate_left
      · intro w hSw; go_simp; with_reducible rfl
      simp only [Act.put, List.getElem_toArray, List.getElem_cons_zero, List.getElem_cons_succ, List.setIfInBounds_toArray, List.set_cons_zero, List.set_cons_succ]
      refine wpAnyX_take (i := 7) (oi := _) (v := ?_) rfl (by kernel_rfl) (by kernel_rfl) (by kernel_rfl) (by kernel_rfl) (fun _ _ _ h => h) (Or.inl ⟨by rfl, ?_⟩) (by assumption) ?_
      rotate_left
      · intro w hSw; go_simp; with_reducible rfl
      simp only [Act.put, List.getElem_toArray, List.getElem_cons_zero, List.getElem_cons_succ, List.setIfInBounds_toArray, List.set_cons_zero, List.set_cons_succ]
      refine wpAnyX_take (i := 9) (oi := _) (v := ?_) rfl (by kernel_rfl) (by kernel_rfl) (by kernel_rfl) (by kernel_rfl) (fun _ _ _ h => h) (Or.inl ⟨by rfl, ?_⟩) (by assumption) ?_
      rotate_left
      · intro w hSw; go_simp; with_reducible rfl
      simp only [Act.put, List.getElem_toArray, List.getElem_cons_zero, List.getElem_cons_succ, List.setIfInBounds_toArray, List.set_cons_zero, List.set_cons_succ]
      refine wpAnyX_take (i := 12) (oi := _) (v := ?_) rfl (by kernel_rfl) (by kernel_rfl) (by kernel_rfl) (by kernel_rfl) (fun _ _ _ h => h) (Or.inl ⟨by rfl, ?_⟩) (by assumption) ?_
      rotate_left
      · intro w hSw; go_simp; with_reducible rfl
      simp only [Act.put, List.getElem_toArray, List.getElem_cons_zero, List.getElem_cons_succ, List.setIfInBounds_toArray, List.set_cons_zero, List.set_cons_succ]
      refine wpAnyX_take (i := 13) (oi := _) (v := ?_) rfl (by kernel_rfl) (by kernel_rfl) (by kernel_rfl) (by kernel_rfl) (fun _ _ _ h => h) (Or.inl ⟨by rfl, ?_⟩) (by assumption) ?_
      rotate_left
      · intro w hSw; go_simp; with_reducible rfl
      simp only [Act.put, List.getElem_toArray, List.getElem_cons_zero, List.getElem_cons_succ, List.setIfInBounds_toArray, List.set_cons_zero, List.set_cons_succ]
      refine wpAnyX_take (i := 14) (oi := _) (v := ?_) rfl (by kernel_rfl) (by kernel_rfl) (by kernel_rfl) (by kernel_rfl) (fun _ _ _ h => h) (Or.inl ⟨by rfl, ?_⟩) (by assumption) ?_
      rotate_left
      · intro w hSw; go_simp; with_reducible rfl
      simp only [Act.put, List.getElem_toArray, List.getElem_cons_zero, List.getElem_cons_succ, List.setIfInBounds_toArray, List.set_cons_zero, List.set_cons_succ]
      refine wpAnyX_take (i := 15) (oi := _) (v := ?_) rfl (by kernel_rfl) (by kernel_rfl) (by kernel_rfl) (by kernel_rfl) (fun _ _ _ h => h) (Or.inl ⟨by rfl, ?_⟩) (by assumption) ?_
      rotate_left
      · intro w hSw; go_simp; with_reducible rfl
      simp only [Act.put, List.getElem_toArray, List.getElem_cons_zero, List.getElem_cons_succ, List.setIfInBounds_toArray, List.set_cons_zero, List.set_cons_succ]
      refine wpAnyX_take (i := 16) (oi := _) (v := ?_) rfl (by kernel_rfl) (by kernel_rfl) (by kernel_rfl) (by kernel_rfl) (fun _ _ _ h => h) (Or.inl ⟨by rfl, ?_⟩) (by assumption) ?_
      rotate_left
      · intro w hSw; go_simp; with_reducible rfl
      simp only [Act.put, List.getElem_toArray, List.getElem_cons_zero, List.getElem_cons_succ, List.setIfInBounds_toArray, List.set_cons_zero, List.set_cons_succ]
      refine wpAnyX_take (i := 17) (oi := _) (v := ?_) rfl (by kernel_rfl) (by kernel_rfl) (by kernel_rfl) (by kernel_rfl) (fun _ _ _ h => h) (Or.inl ⟨by rfl, ?_⟩) (by assumption) ?_
      rotate_left
      · intro w hSw; go_simp; with_reducible rfl
      simp only [Act.put, List.getElem_toArray, List.getElem_cons_zero, List.getElem_cons_succ, List.setIfInBounds_toArray, List.set_cons_zero, List.set_cons_succ]
      refine wpAnyX_ready (rs := [1, 10]) (by kernel_rfl) (by simp) ?_
      refine AllReadyX.cons rfl (fun K hK => ?_) ?_
      · skip
        have u1 := hid ((HS4.out).empty elRt 35 (wq.heap.size) (by simp) w0.heap.size (by have := HS4.out.bl.size; have := (HS4.out).bl.size; simp at *; omega))
        have a2 := hid (u1.out.step (Cls.drew _))
        go_simp
        go_wp2_with fail
        refine hK.out _ _ (ptS_of a2.out 1 4 rfl rfl (by decide)) (fun hHeld => ?_)
        clear hK K
        try simp only [Act.put, List.getElem_toArray, List.getElem_cons_zero, List.getElem_cons_succ, List.setIfInBounds_toArray, List.set_cons_zero, List.set_cons_succ]
        refine wpAnyX_ready (rs := [8, 10]) (by kernel_rfl) (by simp) ?_
        refine AllReadyX.cons rfl (fun K hK => ?_) ?_
        · skip
          refine step_append_led rfl _ _ 30 rfl (a2.out) 0 rfl Try.underlying30 hi hz0 hz1 (by rw [hz2]; decide) rfl rfl rfl (((a2.out).seesRS 3 rfl).take (k := 0) HP4.out) ((by first | (simp; done) | (simp; omega))) (by have := (a2.out).bl.size; simp at *; omega) ?_
          intro A3 c4 v5 h6
          rw [show ([] : List (Int × Sl)).length + 0 = 0 by simp, List.nil_append] at h6
          rw [show ([] : List (Int × Sl)).length + 0 = 0 by simp]
          have k7 := hid h6
          clear h6
          refine hK.out _ _ (ptS_of k7.out 1 4 rfl rfl (by decide)) (fun hHeld => ?_)
          clear hK K
          try simp only [Act.put, List.getElem_toArray, List.getElem_cons_zero, List.getElem_cons_succ, List.setIfInBounds_toArray, List.set_cons_zero, List.set_cons_succ]
          refine wpAnyX_ready (rs := [10]) (by kernel_rfl) (by simp) ?_
          refine AllReadyX.cons rfl (fun K hK => ?_) AllReadyX.nil
          have u8 := hid ((k7.out).blk_ (v5.heap.size) (by simp) 35 #[.int .i64 (s : Int), .slice B ids.length e])
          go_simp
          go_wp2_with fail
          refine hK.out _ _ (ptS_of u8.out 2 5 rfl rfl (by decide)) (fun hHeld => ?_)
          clear hK K
          try simp only [Act.put, List.getElem_toArray, List.getElem_cons_zero, List.getElem_cons_succ, List.setIfInBounds_toArray, List.set_cons_zero, List.set_cons_succ]
          refine wpAnyX_ready (rs := [11]) (by kernel_rfl) (by simp) ?_
          refine AllReadyX.cons rfl (fun K hK => ?_) AllReadyX.nil
          refine step_append_led rfl _ _ 30 rfl (u8.out) 1 rfl Try.underlying30 hi hz0 hz1 (by rw [hz2]; decide) rfl rfl rfl (sees_rt ((u8.out).get 0 rfl)) ((by rw [HT.out]; omega)) (by have := (u8.out).bl.size; simp at *; omega) ?_
          intro A10 c11 v12 h13
          rw [HT.out] at h13
          rw [HT.out]
          have k14 := hid h13
          clear h13
          refine hK.out _ _ (ptS_of k14.out 2 5 rfl rfl (by decide)) (fun hHeld => ?_)
          clear hK K
          try simp only [Act.put, List.getElem_toArray, List.getElem_cons_zero, List.getElem_cons_succ, List.setIfInBounds_toArray, List.set_cons_zero, List.set_cons_succ]
          refine wpAnyX_ready (rs := [18]) (by kernel_rfl) (by simp) ?_
          refine AllReadyX.cons rfl (fun K hK => ?_) AllReadyX.nil
          refine step_append_led rfl _ _ 30 rfl (k14.out) 1 rfl Try.underlying30 hi hz0 hz1 (by rw [hz2]; decide) rfl rfl rfl (((k14.out).seesRS 4 rfl)) ((by rw [List.length_append, HT.out]; simp; omega)) (by have := (k14.out).bl.size; simp at *; omega) ?_
          intro A15 c16 v17 h18
          rw [show (ss.take 0 ++ [((s : Int), (⟨B, ids.length, e⟩ : Sl))]).length + (l.length) = l.length + 1 by rw [List.length_append, HT.out]; have := HP4.out; simp; try omega] at h18 ⊢
          have k19 := hid h18
          clear h18
          refine hK.out _ _ (ptS_of k19.out 2 5 rfl rfl (by decide)) (fun hHeld => ?_)
          clear hK K
          try simp only [Act.put, List.getElem_toArray, List.getElem_cons_zero, List.getElem_cons_succ, List.setIfInBounds_toArray, List.set_cons_zero, List.set_cons_succ]
          refine wpAnyX_ready (rs := [19]) (by kernel_rfl) (by simp) ?_
          refine AllReadyX.cons rfl (fun K hK => ?_) AllReadyX.nil
          go_simp
          refine hK.out _ _ (ptS_of k19.out 2 5 rfl rfl (by decide)) (fun hHeld => ?_)
          clear hK K
          try simp only [Act.put, List.getElem_toArray, List.getElem_cons_zero, List.getElem_cons_succ, List.setIfInBounds_toArray, List.set_cons_zero, List.set_cons_succ]
          refine wpAnyX_take (i := 20) (oi := _) (v := ?_) rfl (by kernel_rfl) (by kernel_rfl) (by kernel_rfl) (by kernel_rfl) (fun _ _ _ h => h) (Or.inl ⟨by rfl, ?_⟩) (by assumption) ?_
          rotate_left
          · intro w hSw; go_simp; with_reducible rfl
          simp only [Act.put, List.getElem_toArray, List.getElem_cons_zero, List.getElem_cons_succ, List.setIfInBounds_toArray, List.set_cons_zero, List.set_cons_succ]
          have q1 := (k19.out).cell 5 3 rfl rfl
          have z1 := (k19.out).frozen 5 3 rfl
          have k1 := hid ((k19.out).set 5 rfl 3 (.slice A15 (l.length + 1) c16))
          refine wpAnyX_ready (rs := [21]) (by kernel_rfl) (by simp) ?_
          refine AllReadyX.last rfl (fun K hK => ?_)
          go_simp
          refine hK.out _ _ ?_
          clear hK K
          try simp only [Act.put, List.getElem_toArray, List.getElem_cons_zero, List.getElem_cons_succ, List.setIfInBounds_toArray, List.set_cons_zero, List.set_cons_succ]
          refine wpAnyX_done (by kernel_rfl) ?_ _
          have k2 := Led.front (P := [_, _, _, _, _, _]) (R := R) k1.out [1, 3, 4, 5] (by decide) rfl
          have k3 := hid (Led.relist (p := 0) (s0 := ((s : Int), (⟨B, ids.length, e⟩ : Sl))) (r0 := ((s : Int), ids)) (R := tBlk gx 133 (srX A n c A' m d to (.slice A15 (l.length + 1) c16)) :: R) (show Led w0 _ (tOwns elRt w0.heap.size 35 (.slice A15 (l.length + 1) c16) (putAt ss 0 ((s : Int), (⟨B, ids.length, e⟩ : Sl))) :: tOwns elInt b 3 (.slice B ids.length e) ids :: tRS w0.heap.size (.slice AV l.length cV) ss (l.map fun r => ((s : Int), r)) :: tBlk gx 133 (srX A n c A' m d to (.slice A15 (l.length + 1) c16)) :: R) from by rw [HPU.out]; exact k2) HPS.out rfl hbb (Nat.le_refl _))
          clear k1 k2 q1 z1
          go_wp2_with fail
          go_end0
          refine ⟨rfl, .slice A15 (l.length + 1) c16, putAt ss 0 ((s : Int), (⟨B, ids.length, e⟩ : Sl)), ?_⟩
          have e1 : (insR fs (s : Int) l ids).map (fun r => ((s : Int), r)) = putAt (l.map fun r => ((s : Int), r)) 0 ((s : Int), ids) := by unfold insR; rw [HPL.out, putAt_map]
          rw [e1]
          exact k3.out
        refine AllReadyX.cons rfl (fun K hK => ?_) AllReadyX.nil
        have u20 := hid ((u1.out).blk_ (wq.heap.size + 1) (by simp) 35 #[.int .i64 (s : Int), .slice B ids.length e])
        have a21 := hid (u20.out.step (Cls.drew _))
        go_simp
        go_wp2_with fail
        refine hK.out _ _ (ptS_of a21.out 2 5 rfl rfl (by decide)) (fun hHeld => ?_)
        clear hK K
        try simp only [Act.put, List.getElem_toArray, List.getElem_cons_zero, List.getElem_cons_succ, List.setIfInBounds_toArray, List.set_cons_zero, List.set_cons_succ]
        refine wpAnyX_ready (rs := [8]) (by kernel_rfl) (by simp) ?_
        refine AllReadyX.cons rfl (fun K hK => ?_) AllReadyX.nil
        refine step_append_led rfl _ _ 30 rfl (a21.out) 1 rfl Try.underlying30 hi hz0 hz1 (by rw [hz2]; decide) rfl rfl rfl (((a21.out).seesRS 4 rfl).take (k := 0) HP4.out) ((by first | (simp; done) | (simp; omega))) (by have := (a21.out).bl.size; simp at *; omega) ?_
        intro A22 c23 v24 h25
        rw [show ([] : List (Int × Sl)).length + 0 = 0 by simp, List.nil_append] at h25
        rw [show ([] : List (Int × Sl)).length + 0 = 0 by simp]
        have k26 := hid h25
        clear h25
        refine hK.out _ _ (ptS_of k26.out 2 5 rfl rfl (by decide)) (fun hHeld => ?_)
        clear hK K
        try simp only [Act.put, List.getElem_toArray, List.getElem_cons_zero, List.getElem_cons_succ, List.setIfInBounds_toArray, List.set_cons_zero, List.set_cons_succ]
        refine wpAnyX_ready (rs := [11]) (by kernel_rfl) (by simp) ?_
        refine AllReadyX.cons rfl (fun K hK => ?_) AllReadyX.nil
        refine step_append_led rfl _ _ 30 rfl (k26.out) 1 rfl Try.underlying30 hi hz0 hz1 (by rw [hz2]; decide) rfl rfl rfl (sees_rt ((k26.out).get 0 rfl)) ((by rw [HT.out]; omega)) (by have := (k26.out).bl.size; simp at *; omega) ?_
        intro A27 c28 v29 h30
        rw [HT.out] at h30
        rw [HT.out]
        have k31 := hid h30
        clear h30
        refine hK.out _ _ (ptS_of k31.out 2 5 rfl rfl (by decide)) (fun hHeld => ?_)
        clear hK K
        try simp only [Act.put, List.getElem_toArray, List.getElem_cons_zero, List.getElem_cons_succ, List.setIfInBounds_toArray, List.set_cons_zero, List.set_cons_succ]
        refine wpAnyX_ready (rs := [18]) (by kernel_rfl) (by simp) ?_
        refine AllReadyX.cons rfl (fun K hK => ?_) AllReadyX.nil
        refine step_append_led rfl _ _ 30 rfl (k31.out) 1 rfl Try.underlying30 hi hz0 hz1 (by rw [hz2]; decide) rfl rfl rfl (((k31.out).seesRS 4 rfl)) ((by rw [List.length_append, HT.out]; simp; omega)) (by have := (k31.out).bl.size; simp at *; omega) ?_
        intro A32 c33 v34 h35
        rw [show (ss.take 0 ++ [((s : Int), (⟨B, ids.length, e⟩ : Sl))]).length + (l.length) = l.length + 1 by rw [List.length_append, HT.out]; have := HP4.out; simp; try omega] at h35 ⊢
        have k36 := hid h35
        clear h35
        refine hK.out _ _ (ptS_of k36.out 2 5 rfl rfl (by decide)) (fun hHeld => ?_)
        clear hK K
        try simp only [Act.put, List.getElem_toArray, List.getElem_cons_zero, List.getElem_cons_succ, List.setIfInBounds_toArray, List.set_cons_zero, List.set_cons_succ]
        refine wpAnyX_ready (rs := [19]) (by kernel_rfl) (by simp) ?_
        refine AllReadyX.cons rfl (fun K hK => ?_) AllReadyX.nil
        go_simp
        refine hK.out _ _ (ptS_of k36.out 2 5 rfl rfl (by decide)) (fun hHeld => ?_)
        clear hK K
        try simp only [Act.put, List.getElem_toArray, List.getElem_cons_zero, List.getElem_cons_succ, List.setIfInBounds_toArray, List.set_cons_zero, List.set_cons_succ]
        refine wpAnyX_take (i := 20) (oi := _) (v := ?_) rfl (by kernel_rfl) (by kernel_rfl) (by kernel_rfl) (by kernel_rfl) (fun _ _ _ h => h) (Or.inl ⟨by rfl, ?_⟩) (by assumption) ?_
        rotate_left
        · intro w hSw; go_simp; with_reducible rfl
        simp only [Act.put, List.getElem_toArray, List.getElem_cons_zero, List.getElem_cons_succ, List.setIfInBounds_toArray, List.set_cons_zero, List.set_cons_succ]
        have q1 := (k36.out).cell 5 3 rfl rfl
        have z1 := (k36.out).frozen 5 3 rfl
        have k1 := hid ((k36.out).set 5 rfl 3 (.slice A32 (l.length + 1) c33))
        refine wpAnyX_ready (rs := [21]) (by kernel_rfl) (by simp) ?_
        refine AllReadyX.last rfl (fun K hK => ?_)
        go_simp
        refine hK.out _ _ ?_
        clear hK K
        try simp only [Act.put, List.getElem_toArray, List.getElem_cons_zero, List.getElem_cons_succ, List.setIfInBounds_toArray, List.set_cons_zero, List.set_cons_succ]
        refine wpAnyX_done (by kernel_rfl) ?_ _
        have k2 := Led.front (P := [_, _, _, _, _, _]) (R := R) k1.out [1, 3, 4, 5] (by decide) rfl
        have k3 := hid (Led.relist (p := 0) (s0 := ((s : Int), (⟨B, ids.length, e⟩ : Sl))) (r0 := ((s : Int), ids)) (R := tBlk gx 133 (srX A n c A' m d to (.slice A32 (l.length + 1) c33)) :: R) (show Led w0 _ (tOwns elRt w0.heap.size 35 (.slice A32 (l.length + 1) c33) (putAt ss 0 ((s : Int), (⟨B, ids.length, e⟩ : Sl))) :: tOwns elInt b 3 (.slice B ids.length e) ids :: tRS w0.heap.size (.slice AV l.length cV) ss (l.map fun r => ((s : Int), r)) :: tBlk gx 133 (srX A n c A' m d to (.slice A32 (l.length + 1) c33)) :: R) from by rw [HPU.out]; exact k2) HPS.out rfl hbb (Nat.le_refl _))
        clear k1 k2 q1 z1
        go_wp2_with fail
        go_end0
        refine ⟨rfl, .slice A32 (l.length + 1) c33, putAt ss 0 ((s : Int), (⟨B, ids.length, e⟩ : Sl)), ?_⟩
        have e1 : (insR fs (s : Int) l ids).map (fun r => ((s : Int), r)) = putAt (l.map fun r => ((s : Int), r)) 0 ((s : Int), ids) := by unfold insR; rw [HPL.out, putAt_map]
        rw [e1]
        exact k3.out
      refine AllReadyX.cons rfl (fun K hK => ?_) AllReadyX.nil
      have u37 := hid ((HS4.out).blk_ (wq.heap.size) (by simp) 35 #[.int .i64 (s : Int), .slice B ids.length e])
      have a38 := hid (u37.out.step (Cls.drew _))
      go_simp
      go_wp2_with fail
      refine hK.out _ _ (ptS_of a38.out 1 4 rfl rfl (by decide)) (fun hHeld => ?_)
      clear hK K
      try simp only [Act.put, List.getElem_toArray, List.getElem_cons_zero, List.getElem_cons_succ, List.setIfInBounds_toArray, List.set_cons_zero, List.set_cons_succ]
      refine wpAnyX_ready (rs := [1]) (by kernel_rfl) (by simp) ?_
      refine AllReadyX.cons rfl (fun K hK => ?_) AllReadyX.nil
      have u39 := hid ((u37.out).empty elRt 35 (wq.heap.size + 1) (by simp) w0.heap.size (by have := HS4.out.bl.size; have := (u37.out).bl.size; simp at *; omega))
      have a40 := hid (u39.out.step (Cls.drew _))
      go_simp
      go_wp2_with fail
      refine hK.out _ _ (ptS_of a40.out 2 5 rfl rfl (by decide)) (fun hHeld => ?_)
      clear hK K
      try simp only [Act.put, List.getElem_toArray, List.getElem_cons_zero, List.getElem_cons_succ, List.setIfInBounds_toArray, List.set_cons_zero, List.set_cons_succ]
      refine wpAnyX_ready (rs := [8]) (by kernel_rfl) (by simp) ?_
      refine AllReadyX.cons rfl (fun K hK => ?_) AllReadyX.nil
      refine step_append_led rfl _ _ 30 rfl (a40.out) 0 rfl Try.underlying30 hi hz0 hz1 (by rw [hz2]; decide) rfl rfl rfl (((a40.out).seesRS 4 rfl).take (k := 0) HP4.out) ((by first | (simp; done) | (simp; omega))) (by have := (a40.out).bl.size; simp at *; omega) ?_
      intro A41 c42 v43 h44
      rw [show ([] : List (Int × Sl)).length + 0 = 0 by simp, List.nil_append] at h44
      rw [show ([] : List (Int × Sl)).length + 0 = 0 by simp]
      have k45 := hid h44
      clear h44
      refine hK.out _ _ (ptS_of k45.out 2 5 rfl rfl (by decide)) (fun hHeld => ?_)
      clear hK K
      try simp only [Act.put, List.getElem_toArray, List.getElem_cons_zero, List.getElem_cons_succ, List.setIfInBounds_toArray, List.set_cons_zero, List.set_cons_succ]
      refine wpAnyX_ready (rs := [11]) (by kernel_rfl) (by simp) ?_
      refine AllReadyX.cons rfl (fun K hK => ?_) AllReadyX.nil
      refine step_append_led rfl _ _ 30 rfl (k45.out) 0 rfl Try.underlying30 hi hz0 hz1 (by rw [hz2]; decide) rfl rfl rfl (sees_rt ((k45.out).get 1 rfl)) ((by rw [HT.out]; omega)) (by have := (k45.out).bl.size; simp at *; omega) ?_
      intro A46 c47 v48 h49
      rw [HT.out] at h49
      rw [HT.out]
      have k50 := hid h49
      clear h49
      refine hK.out _ _ (ptS_of k50.out 2 5 rfl rfl (by decide)) (fun hHeld => ?_)
      clear hK K
      try simp only [Act.put, List.getElem_toArray, List.getElem_cons_zero, List.getElem_cons_succ, List.setIfInBounds_toArray, List.set_cons_zero, List.set_cons_succ]
      refine wpAnyX_ready (rs := [18]) (by kernel_rfl) (by simp) ?_
      refine AllReadyX.cons rfl (fun K hK => ?_) AllReadyX.nil
      refine step_append_led rfl _ _ 30 rfl (k50.out) 0 rfl Try.underlying30 hi hz0 hz1 (by rw [hz2]; decide) rfl rfl rfl (((k50.out).seesRS 4 rfl)) ((by rw [List.length_append, HT.out]; simp; omega)) (by have := (k50.out).bl.size; simp at *; omega) ?_
      intro A51 c52 v53 h54
      rw [show (ss.take 0 ++ [((s : Int), (⟨B, ids.length, e⟩ : Sl))]).length + (l.length) = l.length + 1 by rw [List.length_append, HT.out]; have := HP4.out; simp; try omega] at h54 ⊢
      have k55 := hid h54
      clear h54
      refine hK.out _ _ (ptS_of k55.out 2 5 rfl rfl (by decide)) (fun hHeld => ?_)
      clear hK K
      try simp only [Act.put, List.getElem_toArray, List.getElem_cons_zero, List.getElem_cons_succ, List.setIfInBounds_toArray, List.set_cons_zero, List.set_cons_succ]
      refine wpAnyX_ready (rs := [19]) (by kernel_rfl) (by simp) ?_
      refine AllReadyX.cons rfl (fun K hK => ?_) AllReadyX.nil
      go_simp
      refine hK.out _ _ (ptS_of k55.out 2 5 rfl rfl (by decide)) (fun hHeld => ?_)
      clear hK K
      try simp only [Act.put, List.getElem_toArray, List.getElem_cons_zero, List.getElem_cons_succ, List.setIfInBounds_toArray, List.set_cons_zero, List.set_cons_succ]
      refine wpAnyX_take (i := 20) (oi := _) (v := ?_) rfl (by kernel_rfl) (by kernel_rfl) (by kernel_rfl) (by kernel_rfl) (fun _ _ _ h => h) (Or.inl ⟨by rfl, ?_⟩) (by assumption) ?_
      rotate_left
      · intro w hSw; go_simp; with_reducible rfl
      simp only [Act.put, List.getElem_toArray, List.getElem_cons_zero, List.getElem_cons_succ, List.setIfInBounds_toArray, List.set_cons_zero, List.set_cons_succ]
      have q1 := (k55.out).cell 5 3 rfl rfl
      have z1 := (k55.out).frozen 5 3 rfl
      have k1 := hid ((k55.out).set 5 rfl 3 (.slice A51 (l.length + 1) c52))
      refine wpAnyX_ready (rs := [21]) (by kernel_rfl) (by simp) ?_
      refine AllReadyX.last rfl (fun K hK => ?_)
      go_simp
      refine hK.out _ _ ?_
      clear hK K
      try simp only [Act.put, List.getElem_toArray, List.getElem_cons_zero, List.getElem_cons_succ, List.setIfInBounds_toArray, List.set_cons_zero, List.set_cons_succ]
      refine wpAnyX_done (by kernel_rfl) ?_ _
      have k2 := Led.front (P := [_, _, _, _, _, _]) (R := R) k1.out [0, 3, 4, 5] (by decide) rfl
      have k3 := hid (Led.relist (p := 0) (s0 := ((s : Int), (⟨B, ids.length, e⟩ : Sl))) (r0 := ((s : Int), ids)) (R := tBlk gx 133 (srX A n c A' m d to (.slice A51 (l.length + 1) c52)) :: R) (show Led w0 _ (tOwns elRt w0.heap.size 35 (.slice A51 (l.length + 1) c52) (putAt ss 0 ((s : Int), (⟨B, ids.length, e⟩ : Sl))) :: tOwns elInt b 3 (.slice B ids.length e) ids :: tRS w0.heap.size (.slice AV l.length cV) ss (l.map fun r => ((s : Int), r)) :: tBlk gx 133 (srX A n c A' m d to (.slice A51 (l.length + 1) c52)) :: R) from by rw [HPU.out]; exact k2) HPS.out rfl hbb (Nat.le_refl _))
      clear k1 k2 q1 z1
      go_wp2_with fail
      go_end0
      refine ⟨rfl, .slice A51 (l.length + 1) c52, putAt ss 0 ((s : Int), (⟨B, ids.length, e⟩ : Sl)), ?_⟩
      have e1 : (insR fs (s : Int) l ids).map (fun r => ((s : Int), r)) = putAt (l.map fun r => ((s : Int), r)) 0 ((s : Int), ids) := by unfold insR; rw [HPL.out, putAt_map]
      rw [e1]
      exact k3.out
    · obtain ⟨q, rfl⟩ : ∃ q, p = q + 1 := ⟨p - 1, by omega⟩
      have hql : q < l.length := hp
      obtain ⟨r, hr⟩ : ∃ r, l[q]? = some r := ⟨l[q], List.getElem?_eq_getElem hql⟩
      obtain ⟨⟨s1, t⟩, ht⟩ : ∃ t, ss[q]? = some t := ⟨ss[q]'(by rw [HSL.out]; exact hql), List.getElem?_eq_getElem _⟩
      have hO : OwnsRS wr w0.heap.size (.slice AV l.length cV) ss (l.map fun r => ((s : Int), r)) := HS.out.get 2 rfl
      obtain ⟨hs1, how⟩ := hO.2.2.1 q (s1, t) ((s : Int), r) ht (by rw [List.getElem?_map, hr]; rfl)
      simp only at hs1 how
      subst hs1
      obtain ⟨tA, tc, htv, htc, _, _⟩ := how.form
      unfold slV at htv
      injection htv with e1 e2 e3
      obtain ⟨tA', tn, tc'⟩ := t
      simp only at e1 e2 e3
      subst e1
      subst e2
      subst e3
      have hrok := HL.out r (List.mem_of_getElem? hr)
      obtain ⟨gv, go, rfl, _, hc⟩ := (HQ.out wr (Cls.refl _)).at_ hql
      have f0 := hc q _ ht 0 _ rfl
      have f1 := hc q _ ht 1 _ rfl
      simp only [elRt, Nat.add_zero, slV] at f0 f1
      have D0 : ∀ w', Cls wr w' → w'.cell? ⟨gv, go + q * 2, none⟩ = some (.int .i64 (s : Int)) := fun _ h => h.cell f0
      have D1 : ∀ w', Cls wr w' → w'.cell? ⟨gv, go + q * 2 + 1, none⟩ = some (.slice tA' r.length tc') := fun _ h => h.cell f1
      obtain ⟨x, hx⟩ : ∃ x, ordR fs (s : Int) ids (s : Int) r = x := ⟨_, rfl⟩
      have HC : Hid (∀ w', Cls wr w' → Calls Try.prog 172 #[.agg #[.slice A n c, .slice A' m d], .agg #[.int .i64 (s : Int), .slice B ids.length e], .agg #[.int .i64 (s : Int), .slice tA' r.length tc']] w' fun e w2 => e = .returned (.int .i64 x) ∧ Below w'.heap.size w' w2) := fun w' hw' => by
        have hl' := HS.out.step hw'
        have hO' : OwnsRS w' w0.heap.size (.slice (some ⟨gv, go, none⟩) l.length cV) ss (l.map fun r => ((s : Int), r)) := hl'.get 2 rfl
        have hw2 := (hO'.2.2.1 q _ ((s : Int), r) ht (by rw [List.getElem?_map, hr]; rfl)).2
        rw [← hx]
        exact l4Compare_any w' (HN.out.grow hl'.bl) ⟨⟨(hl'.form 1 rfl).elim (fun A1 h1 => h1.elim fun c1 h2 => by have := h2.1; injection this with _ _ e3; rw [e3]; exact h2.2), hi1⟩, hl'.seesI 1 rfl⟩ ⟨⟨htc, hrok.1⟩, Owns.sees hw2⟩ (goodB_lens HG.out) HIDS.out hrok.2 ⟨by omega, by omega⟩ ⟨by omega, by omega⟩
      have HX : Hid (plcR fs (s : Int) l ids (q + 1) = if x < 0 then plcR fs (s : Int) l ids q else q + 1) := by
        unfold Hid
        rw [plcR, List.getD_eq_getElem?_getD, hr]
        show (if ordR fs (s : Int) ids (s : Int) r < 0 then _ else _) = _
        rw [hx]
      have iw : IntKind.i64.wrap (((q + 1 : Nat) : Int) - 1) = (q : Int) := by rw [IntWalk.i64_in _ (by omega)]; omega
      have iw2 : IntKind.i64.wrap (q : Int) = (q : Int) := IntWalk.i64_in _ (by omega)
      have ip : ((q + 1 : Nat) : Int) > 0 := by omega
      have iq : (0 : Int) ≤ (q : Int) := by omega
      have iq2 : (q : Int) < (l.length : Int) := by omega
      clear hO how hc f0 f1 hx ht hr
      by_cases hx0 : x < 0
      · go_wp2_with fail
        refine region_cls (by kernel_rfl) (by kernel_rfl) ?_
        repeat (first
          | ((with_reducible refine quiet_pos ?_ (fun K hK => ?_))
             · rfl
             apply Exists.intro
             refine ⟨fun w' hw' => ?_, ?_⟩
             · go_simp
               first
                 | with_reducible rfl
                 | go_at_call 172; with_reducible exact hw'.call (HC.out _ hw')
             simp only [Act.put, List.setIfInBounds_toArray, List.set_cons_zero, List.set_cons_succ]
             refine hK _ ?_; clear hK K)
          | ((with_reducible refine quiet_neg ?_ (fun K hK => ?_))
             · rfl
             simp only [Act.put, List.setIfInBounds_toArray, List.set_cons_zero, List.set_cons_succ]
             refine hK _ ?_; clear hK K))
        with_reducible refine wpQuiet_nil ?_
        intro wz hwz'
        have hs4 := hid (HS.out.step hwz')
        have HP2 : Hid (plcR fs (s : Int) l ids q = plcR fs (s : Int) l ids l.length) := by unfold Hid; rw [← HP.out, HX.out, if_pos hx0]
        clear hwz' C0 C1 C2 C3 C4 D0 D1 HC HS HQ
        go_wp2
        refine ⟨⟨q, by omega, rfl, HP2, hs4⟩, by first | (simp [intOf]; done) | (simp [intOf]; omega)⟩
      · have HPL : Hid (plcR fs (s : Int) l ids l.length = q + 1) := by unfold Hid; rw [← HP.out, HX.out, if_neg hx0]
        go_wp2_with fail
        refine region_cls (by kernel_rfl) (by kernel_rfl) ?_
        repeat (first
          | ((with_reducible refine quiet_pos ?_ (fun K hK => ?_))
             · rfl
             apply Exists.intro
             refine ⟨fun w' hw' => ?_, ?_⟩
             · go_simp
               first
                 | with_reducible rfl
                 | go_at_call 172; with_reducible exact hw'.call (HC.out _ hw')
             simp only [Act.put, List.setIfInBounds_toArray, List.set_cons_zero, List.set_cons_succ]
             refine hK _ ?_; clear hK K)
          | ((with_reducible refine quiet_neg ?_ (fun K hK => ?_))
             · rfl
             simp only [Act.put, List.setIfInBounds_toArray, List.set_cons_zero, List.set_cons_succ]
             refine hK _ ?_; clear hK K))
        with_reducible refine wpQuiet_nil ?_
        intro wz hwz'
        have hs4 := HS.out.step hwz'
        have HS4 := hid hs4
        clear hs4 hwz' C0 C1 C2 C3 C4 D0 D1 HC HS HQ HX HP
        go_wp2_with fail
        revert wz
        intro wq HS4
        have HP4 : Hid (q + 1 ≤ l.length) := hp
        have HPS : Hid (q + 1 ≤ ss.length) := by unfold Hid; rw [HSL.out]; exact hp
        have HT : Hid ((ss.take (q + 1)).length = q + 1) := by unfold Hid; rw [List.length_take]; have := HPS.out; omega
        have HPU : Hid (putAt ss (q + 1) ((s : Int), (⟨B, ids.length, e⟩ : Sl)) = ss.take (q + 1) ++ [((s : Int), (⟨B, ids.length, e⟩ : Sl))] ++ ss.drop (q + 1)) := by unfold Hid putAt; rw [List.append_assoc]; rfl
        have ik1 : (0 : Int) ≤ (q : Int) + 1 := by omega
        have ik3 : (q : Int) + 1 ≤ (l.length : Int) := by omega
        by_cases hcc : q + 1 = cV
        · subst hcc
          have HZ : Hid (l.length - (q + 1) = 0) := by unfold Hid; omega
          have hbz := Below.refl 0 wq
          obtain ⟨i0, hi, hz0, hz1, hz2⟩ := info_parts rt_info
          have E0 : ∀ w', ptS w0 gx w.heap.size A n c A' m d to s (.slice (some ⟨gv, go, none⟩) l.length (q + 1)) B ids.length e w' → w'.cell? ⟨w.heap.size, 0, none⟩ = some (.int .i64 (s : Int)) := fun _ h => Led.cell h 0 0 rfl rfl
          have E1 : ∀ w', ptS w0 gx w.heap.size A n c A' m d to s (.slice (some ⟨gv, go, none⟩) l.length (q + 1)) B ids.length e w' → w'.cell? ⟨w.heap.size, 1, none⟩ = some (.slice B ids.length e) := fun _ h => Led.cell h 0 1 rfl rfl
          have E2 : ∀ w', ptS w0 gx w.heap.size A n c A' m d to s (.slice (some ⟨gv, go, none⟩) l.length (q + 1)) B ids.length e w' → w'.cell? ⟨gx, 3, none⟩ = some (.slice (some ⟨gv, go, none⟩) l.length (q + 1)) := fun _ h => Led.cell h 1 3 rfl rfl
          have HM := hid (mem_ptS (HS4.out.step (Cls.drew wq)))
          refine wp_region_heldX 21 (ptS w0 gx w.heap.size A n c A' m d to s (.slice (some ⟨gv, go, none⟩) l.length (q + 1)) B ids.length e) (by kernel_rfl) (HM.out) (fun hHeld => ?_)
          refine wpAnyX_take (i := 0) (oi := _) (v := ?_) rfl (by kernel_rfl) (by kernel_rfl) (by kernel_rfl) (by kernel_rfl) (fun _ _ _ h => h) (Or.inl ⟨by rfl, ?_⟩) (by assumption) ?_
          rotate_left
          · intro w hSw; go_simp; with_reducible rfl
          simp only [Act.put, List.getElem_toArray, List.getElem_cons_zero, List.setIfInBounds_toArray, List.set_cons_zero, List.set_cons_succ]
          refine wpAnyX_take (i := 2) (oi := _) (v := ?_) rfl (by kernel_rfl) (by kernel_rfl) (by kernel_rfl) (by kernel_rfl) (fun _ _ _ h => h) (Or.inl ⟨by rfl, ?_⟩) (by assumption) ?_
          rotate_left
          · intro w hSw; go_simp; with_reducible rfl
          simp only [Act.put, List.getElem_toArray, List.getElem_cons_zero, List.getElem_cons_succ, List.setIfInBounds_toArray, List.set_cons_zero, List.set_cons_succ]
          refine wpAnyX_take (i := 3) (oi := _) (v := ?_) rfl (by kernel_rfl) (by kernel_rfl) (by kernel_rfl) (by kernel_rfl) (fun _ _ _ h => h) (Or.inl ⟨by rfl, ?_⟩) (by assumption) ?_
          rotate_left
          · intro w hSw; go_simp; with_reducible rfl
          simp only [Act.put, List.getElem_toArray, List.getElem_cons_zero, List.getElem_cons_succ, List.setIfInBounds_toArray, List.set_cons_zero, List.set_cons_succ]
          refine wpAnyX_take (i := 4) (oi := _) (v := ?_) rfl (by kernel_rfl) (by kernel_rfl) (by kernel_rfl) (by kernel_rfl) (fun _ _ _ h => h) (Or.inl ⟨by rfl, ?_⟩) (by assumption) ?_
          rotate_left
          · intro w hSw; go_simp; with_reducible rfl
          simp only [Act.put, List.getElem_toArray, List.getElem_cons_zero, List.getElem_cons_succ, List.setIfInBounds_toArray, List.set_cons_zero, List.set_cons_succ]
          refine wpAnyX_take (i := 5) (oi := _) (v := ?_) rfl (by kernel_rfl) (by kernel_rfl) (by kernel_rfl) (by kernel_rfl) (fun _ _ _ h => h) (Or.inl ⟨by rfl, ?_⟩) (by assumption) ?_
          rotate_left
          · intro w hSw; go_simp; with_reducible rfl
          simp only [Act.put, List.getElem_toArray, List.getElem_cons_zero, List.getElem_cons_succ, List.setIfInBounds_toArray, List.set_cons_zero, List.set_cons_succ]
          refine wpAnyX_take (i := 6) (oi := _) (v := ?_) rfl (by kernel_rfl) (by kernel_rfl) (by kernel_rfl) (by kernel_rfl) (fun _ _ _ h => h) (Or.inl ⟨by rfl, ?_⟩) (by assumption) ?_
          rotate_left
          · intro w hSw; go_simp; with_reducible rfl
          simp only [Act.put, List.getElem_toArray, List.getElem_cons_zero, List.getElem_cons_succ, List.setIfInBounds_toArray, List.set_cons_zero, List.set_cons_succ]
          refine wpAnyX_take (i := 7) (oi := _) (v := ?_) rfl (by kernel_rfl) (by kernel_rfl) (by kernel_rfl) (by kernel_rfl) (fun _ _ _ h => h) (Or.inl ⟨by rfl, ?_⟩) (by assumption) ?_
          rotate_left
          · intro w hSw; go_simp; with_reducible rfl
          simp only [Act.put, List.getElem_toArray, List.getElem_cons_zero, List.getElem_cons_succ, List.setIfInBounds_toArray, List.set_cons_zero, List.set_cons_succ]
          refine wpAnyX_take (i := 9) (oi := _) (v := ?_) rfl (by kernel_rfl) (by kernel_rfl) (by kernel_rfl) (by kernel_rfl) (fun _ _ _ h => h) (Or.inl ⟨by rfl, ?_⟩) (by assumption) ?_
          rotate_left
          · intro w hSw; go_simp; with_reducible rfl
          simp only [Act.put, List.getElem_toArray, List.getElem_cons_zero, List.getElem_cons_succ, List.setIfInBounds_toArray, List.set_cons_zero, List.set_cons_succ]
          refine wpAnyX_take (i := 12) (oi := _) (v := ?_) rfl (by kernel_rfl) (by kernel_rfl) (by kernel_rfl) (by kernel_rfl) (fun _ _ _ h => h) (Or.inl ⟨by rfl, ?_⟩) (by assumption) ?_
          rotate_left
          · intro w hSw; go_simp; with_reducible rfl
          simp only [Act.put, List.getElem_toArray, List.getElem_cons_zero, List.getElem_cons_succ, List.setIfInBounds_toArray, List.set_cons_zero, List.set_cons_succ]
          refine wpAnyX_take (i := 13) (oi := _) (v := ?_) rfl (by kernel_rfl) (by kernel_rfl) (by kernel_rfl) (by kernel_rfl) (fun _ _ _ h => h) (Or.inl ⟨by rfl, ?_⟩) (by assumption) ?_
          rotate_left
          · intro w hSw; go_simp; with_reducible rfl
          simp only [Act.put, List.getElem_toArray, List.getElem_cons_zero, List.getElem_cons_succ, List.setIfInBounds_toArray, List.set_cons_zero, List.set_cons_succ]
          refine wpAnyX_take (i := 14) (oi := _) (v := ?_) rfl (by kernel_rfl) (by kernel_rfl) (by kernel_rfl) (by kernel_rfl) (fun _ _ _ h => h) (Or.inl ⟨by rfl, ?_⟩) (by assumption) ?_
          rotate_left
          · intro w hSw; go_simp; with_reducible rfl
          simp only [Act.put, List.getElem_toArray, List.getElem_cons_zero, List.getElem_cons_succ, List.setIfInBounds_toArray, List.set_cons_zero, List.set_cons_succ]
          refine wpAnyX_take (i := 15) (oi := _) (v := ?_) rfl (by kernel_rfl) (by kernel_rfl) (by kernel_rfl) (by kernel_rfl) (fun _ _ _ h => h) (Or.inl ⟨by rfl, ?_⟩) (by assumption) ?_
          rotate_left
          · intro w hSw; go_simp; with_reducible rfl
          simp only [Act.put, List.getElem_toArray, List.getElem_cons_zero, List.getElem_cons_succ, List.setIfInBounds_toArray, List.set_cons_zero, List.set_cons_succ]
          refine wpAnyX_take (i := 16) (oi := _) (v := ?_) rfl (by kernel_rfl) (by kernel_rfl) (by kernel_rfl) (by kernel_rfl) (fun _ _ _ h => h) (Or.inl ⟨by rfl, ?_⟩) (by assumption) ?_
          rotate_left
          · intro w hSw; go_simp; with_reducible rfl
          simp only [Act.put, List.getElem_toArray, List.getElem_cons_zero, List.getElem_cons_succ, List.setIfInBounds_toArray, List.set_cons_zero, List.set_cons_succ]
          refine wpAnyX_take (i := 17) (oi := _) (v := ?_) rfl (by kernel_rfl) (by kernel_rfl) (by kernel_rfl) (by kernel_rfl) (fun _ _ _ h => h) (Or.inl ⟨by rfl, ?_⟩) (by assumption) ?_
          rotate_left
          · intro w hSw; go_simp; with_reducible rfl
          simp only [Act.put, List.getElem_toArray, List.getElem_cons_zero, List.getElem_cons_succ, List.setIfInBounds_toArray, List.set_cons_zero, List.set_cons_succ]
          refine wpAnyX_ready (rs := [1, 10]) (by kernel_rfl) (by simp) ?_
          refine AllReadyX.cons rfl (fun K hK => ?_) ?_
          · skip
            have u1 := hid ((HS4.out).empty elRt 35 (wq.heap.size) (by simp) w0.heap.size (by have := HS4.out.bl.size; have := (HS4.out).bl.size; simp at *; omega))
            have a2 := hid (u1.out.step (Cls.drew _))
            go_simp
            go_wp2_with fail
            refine hK.out _ _ (ptS_of a2.out 1 4 rfl rfl (by decide)) (fun hHeld => ?_)
            clear hK K
            try simp only [Act.put, List.getElem_toArray, List.getElem_cons_zero, List.getElem_cons_succ, List.setIfInBounds_toArray, List.set_cons_zero, List.set_cons_succ]
            refine wpAnyX_ready (rs := [8, 10]) (by kernel_rfl) (by simp) ?_
            refine AllReadyX.cons rfl (fun K hK => ?_) ?_
            · skip
              refine step_append_led rfl _ _ 30 rfl (a2.out) 0 rfl Try.underlying30 hi hz0 hz1 (by rw [hz2]; decide) rfl rfl rfl (((a2.out).seesRS 3 rfl).take (k := (q + 1)) HP4.out) ((by first | (simp; done) | (simp; omega))) (by have := (a2.out).bl.size; simp at *; omega) ?_
              intro A3 c4 v5 h6
              rw [show ([] : List (Int × Sl)).length + (q + 1) = (q + 1) by simp, List.nil_append] at h6
              rw [show ([] : List (Int × Sl)).length + (q + 1) = (q + 1) by simp]
              have k7 := hid h6
              clear h6
              refine hK.out _ _ (ptS_of k7.out 1 4 rfl rfl (by decide)) (fun hHeld => ?_)
              clear hK K
              try simp only [Act.put, List.getElem_toArray, List.getElem_cons_zero, List.getElem_cons_succ, List.setIfInBounds_toArray, List.set_cons_zero, List.set_cons_succ]
              refine wpAnyX_ready (rs := [10]) (by kernel_rfl) (by simp) ?_
              refine AllReadyX.cons rfl (fun K hK => ?_) AllReadyX.nil
              have u8 := hid ((k7.out).blk_ (v5.heap.size) (by simp) 35 #[.int .i64 (s : Int), .slice B ids.length e])
              go_simp
              go_wp2_with fail
              refine hK.out _ _ (ptS_of u8.out 2 5 rfl rfl (by decide)) (fun hHeld => ?_)
              clear hK K
              try simp only [Act.put, List.getElem_toArray, List.getElem_cons_zero, List.getElem_cons_succ, List.setIfInBounds_toArray, List.set_cons_zero, List.set_cons_succ]
              refine wpAnyX_ready (rs := [11]) (by kernel_rfl) (by simp) ?_
              refine AllReadyX.cons rfl (fun K hK => ?_) AllReadyX.nil
              refine step_append_led rfl _ _ 30 rfl (u8.out) 1 rfl Try.underlying30 hi hz0 hz1 (by rw [hz2]; decide) rfl rfl rfl (sees_rt ((u8.out).get 0 rfl)) ((by rw [HT.out]; omega)) (by have := (u8.out).bl.size; simp at *; omega) ?_
              intro A10 c11 v12 h13
              rw [HT.out] at h13
              rw [HT.out]
              have k14 := hid h13
              clear h13
              refine hK.out _ _ (ptS_of k14.out 2 5 rfl rfl (by decide)) (fun hHeld => ?_)
              clear hK K
              try simp only [Act.put, List.getElem_toArray, List.getElem_cons_zero, List.getElem_cons_succ, List.setIfInBounds_toArray, List.set_cons_zero, List.set_cons_succ]
              refine wpAnyX_ready (rs := [18]) (by kernel_rfl) (by simp) ?_
              refine AllReadyX.cons rfl (fun K hK => ?_) AllReadyX.nil
              refine step_append_led rfl _ _ 30 rfl (k14.out) 1 rfl Try.underlying30 hi hz0 hz1 (by rw [hz2]; decide) rfl rfl rfl ((Sees.backZ ((k14.out).seesRS 4 rfl) HZ.out)) ((by rw [List.length_append, HT.out]; simp; omega)) (by have := (k14.out).bl.size; simp at *; omega) ?_
              intro A15 c16 v17 h18
              rw [show (ss.take (q + 1) ++ [((s : Int), (⟨B, ids.length, e⟩ : Sl))]).length + (0) = l.length + 1 by rw [List.length_append, HT.out]; have := HP4.out; simp; try omega] at h18 ⊢
              have k19 := hid h18
              clear h18
              refine hK.out _ _ (ptS_of k19.out 2 5 rfl rfl (by decide)) (fun hHeld => ?_)
              clear hK K
              try simp only [Act.put, List.getElem_toArray, List.getElem_cons_zero, List.getElem_cons_succ, List.setIfInBounds_toArray, List.set_cons_zero, List.set_cons_succ]
              refine wpAnyX_ready (rs := [19]) (by kernel_rfl) (by simp) ?_
              refine AllReadyX.cons rfl (fun K hK => ?_) AllReadyX.nil
              go_simp
              refine hK.out _ _ (ptS_of k19.out 2 5 rfl rfl (by decide)) (fun hHeld => ?_)
              clear hK K
              try simp only [Act.put, List.getElem_toArray, List.getElem_cons_zero, List.getElem_cons_succ, List.setIfInBounds_toArray, List.set_cons_zero, List.set_cons_succ]
              refine wpAnyX_take (i := 20) (oi := _) (v := ?_) rfl (by kernel_rfl) (by kernel_rfl) (by kernel_rfl) (by kernel_rfl) (fun _ _ _ h => h) (Or.inl ⟨by rfl, ?_⟩) (by assumption) ?_
              rotate_left
              · intro w hSw; go_simp; with_reducible rfl
              simp only [Act.put, List.getElem_toArray, List.getElem_cons_zero, List.getElem_cons_succ, List.setIfInBounds_toArray, List.set_cons_zero, List.set_cons_succ]
              have q1 := (k19.out).cell 5 3 rfl rfl
              have z1 := (k19.out).frozen 5 3 rfl
              have k1 := hid ((k19.out).set 5 rfl 3 (.slice A15 (l.length + 1) c16))
              refine wpAnyX_ready (rs := [21]) (by kernel_rfl) (by simp) ?_
              refine AllReadyX.last rfl (fun K hK => ?_)
              go_simp
              refine hK.out _ _ ?_
              clear hK K
              try simp only [Act.put, List.getElem_toArray, List.getElem_cons_zero, List.getElem_cons_succ, List.setIfInBounds_toArray, List.set_cons_zero, List.set_cons_succ]
              refine wpAnyX_done (by kernel_rfl) ?_ _
              have k2 := Led.front (P := [_, _, _, _, _, _]) (R := R) k1.out [1, 3, 4, 5] (by decide) rfl
              have k3 := hid (Led.relist (p := (q + 1)) (s0 := ((s : Int), (⟨B, ids.length, e⟩ : Sl))) (r0 := ((s : Int), ids)) (R := tBlk gx 133 (srX A n c A' m d to (.slice A15 (l.length + 1) c16)) :: R) (show Led w0 _ (tOwns elRt w0.heap.size 35 (.slice A15 (l.length + 1) c16) (putAt ss (q + 1) ((s : Int), (⟨B, ids.length, e⟩ : Sl))) :: tOwns elInt b 3 (.slice B ids.length e) ids :: tRS w0.heap.size (.slice (some ⟨gv, go, none⟩) l.length (q + 1)) ss (l.map fun r => ((s : Int), r)) :: tBlk gx 133 (srX A n c A' m d to (.slice A15 (l.length + 1) c16)) :: R) from by rw [HPU.out]; exact k2) HPS.out rfl hbb (Nat.le_refl _))
              clear k1 k2 q1 z1
              go_wp2_with fail
              go_end0
              refine ⟨rfl, .slice A15 (l.length + 1) c16, putAt ss (q + 1) ((s : Int), (⟨B, ids.length, e⟩ : Sl)), ?_⟩
              have e1 : (insR fs (s : Int) l ids).map (fun r => ((s : Int), r)) = putAt (l.map fun r => ((s : Int), r)) (q + 1) ((s : Int), ids) := by unfold insR; rw [HPL.out, putAt_map]
              rw [e1]
              exact k3.out
            refine AllReadyX.cons rfl (fun K hK => ?_) AllReadyX.nil
            have u20 := hid ((u1.out).blk_ (wq.heap.size + 1) (by simp) 35 #[.int .i64 (s : Int), .slice B ids.length e])
            have a21 := hid (u20.out.step (Cls.drew _))
            go_simp
            go_wp2_with fail
            refine hK.out _ _ (ptS_of a21.out 2 5 rfl rfl (by decide)) (fun hHeld => ?_)
            clear hK K
            try simp only [Act.put, List.getElem_toArray, List.getElem_cons_zero, List.getElem_cons_succ, List.setIfInBounds_toArray, List.set_cons_zero, List.set_cons_succ]
            refine wpAnyX_ready (rs := [8]) (by kernel_rfl) (by simp) ?_
            refine AllReadyX.cons rfl (fun K hK => ?_) AllReadyX.nil
            refine step_append_led rfl _ _ 30 rfl (a21.out) 1 rfl Try.underlying30 hi hz0 hz1 (by rw [hz2]; decide) rfl rfl rfl (((a21.out).seesRS 4 rfl).take (k := (q + 1)) HP4.out) ((by first | (simp; done) | (simp; omega))) (by have := (a21.out).bl.size; simp at *; omega) ?_
            intro A22 c23 v24 h25
            rw [show ([] : List (Int × Sl)).length + (q + 1) = (q + 1) by simp, List.nil_append] at h25
            rw [show ([] : List (Int × Sl)).length + (q + 1) = (q + 1) by simp]
            have k26 := hid h25
            clear h25
            refine hK.out _ _ (ptS_of k26.out 2 5 rfl rfl (by decide)) (fun hHeld => ?_)
            clear hK K
            try simp only [Act.put, List.getElem_toArray, List.getElem_cons_zero, List.getElem_cons_succ, List.setIfInBounds_toArray, List.set_cons_zero, List.set_cons_succ]
            refine wpAnyX_ready (rs := [11]) (by kernel_rfl) (by simp) ?_
            refine AllReadyX.cons rfl (fun K hK => ?_) AllReadyX.nil
            refine step_append_led rfl _ _ 30 rfl (k26.out) 1 rfl Try.underlying30 hi hz0 hz1 (by rw [hz2]; decide) rfl rfl rfl (sees_rt ((k26.out).get 0 rfl)) ((by rw [HT.out]; omega)) (by have := (k26.out).bl.size; simp at *; omega) ?_
            intro A27 c28 v29 h30
            rw [HT.out] at h30
            rw [HT.out]
            have k31 := hid h30
            clear h30
            refine hK.out _ _ (ptS_of k31.out 2 5 rfl rfl (by decide)) (fun hHeld => ?_)
            clear hK K
            try simp only [Act.put, List.getElem_toArray, List.getElem_cons_zero, List.getElem_cons_succ, List.setIfInBounds_toArray, List.set_cons_zero, List.set_cons_succ]
            refine wpAnyX_ready (rs := [18]) (by kernel_rfl) (by simp) ?_
            refine AllReadyX.cons rfl (fun K hK => ?_) AllReadyX.nil
            refine step_append_led rfl _ _ 30 rfl (k31.out) 1 rfl Try.underlying30 hi hz0 hz1 (by rw [hz2]; decide) rfl rfl rfl ((Sees.backZ ((k31.out).seesRS 4 rfl) HZ.out)) ((by rw [List.length_append, HT.out]; simp; omega)) (by have := (k31.out).bl.size; simp at *; omega) ?_
            intro A32 c33 v34 h35
            rw [show (ss.take (q + 1) ++ [((s : Int), (⟨B, ids.length, e⟩ : Sl))]).length + (0) = l.length + 1 by rw [List.length_append, HT.out]; have := HP4.out; simp; try omega] at h35 ⊢
            have k36 := hid h35
            clear h35
            refine hK.out _ _ (ptS_of k36.out 2 5 rfl rfl (by decide)) (fun hHeld => ?_)
            clear hK K
            try simp only [Act.put, List.getElem_toArray, List.getElem_cons_zero, List.getElem_cons_succ, List.setIfInBounds_toArray, List.set_cons_zero, List.set_cons_succ]
            refine wpAnyX_ready (rs := [19]) (by kernel_rfl) (by simp) ?_
            refine AllReadyX.cons rfl (fun K hK => ?_) AllReadyX.nil
            go_simp
            refine hK.out _ _ (ptS_of k36.out 2 5 rfl rfl (by decide)) (fun hHeld => ?_)
            clear hK K
            try simp only [Act.put, List.getElem_toArray, List.getElem_cons_zero, List.getElem_cons_succ, List.setIfInBounds_toArray, List.set_cons_zero, List.set_cons_succ]
            refine wpAnyX_take (i := 20) (oi := _) (v := ?_) rfl (by kernel_rfl) (by kernel_rfl) (by kernel_rfl) (by kernel_rfl) (fun _ _ _ h => h) (Or.inl ⟨by rfl, ?_⟩) (by assumption) ?_
            rotate_left
            · intro w hSw; go_simp; with_reducible rfl
            simp only [Act.put, List.getElem_toArray, List.getElem_cons_zero, List.getElem_cons_succ, List.setIfInBounds_toArray, List.set_cons_zero, List.set_cons_succ]
            have q1 := (k36.out).cell 5 3 rfl rfl
            have z1 := (k36.out).frozen 5 3 rfl
            have k1 := hid ((k36.out).set 5 rfl 3 (.slice A32 (l.length + 1) c33))
            refine wpAnyX_ready (rs := [21]) (by kernel_rfl) (by simp) ?_
            refine AllReadyX.last rfl (fun K hK => ?_)
            go_simp
            refine hK.out _ _ ?_
            clear hK K
            try simp only [Act.put, List.getElem_toArray, List.getElem_cons_zero, List.getElem_cons_succ, List.setIfInBounds_toArray, List.set_cons_zero, List.set_cons_succ]
            refine wpAnyX_done (by kernel_rfl) ?_ _
            have k2 := Led.front (P := [_, _, _, _, _, _]) (R := R) k1.out [1, 3, 4, 5] (by decide) rfl
            have k3 := hid (Led.relist (p := (q + 1)) (s0 := ((s : Int), (⟨B, ids.length, e⟩ : Sl))) (r0 := ((s : Int), ids)) (R := tBlk gx 133 (srX A n c A' m d to (.slice A32 (l.length + 1) c33)) :: R) (show Led w0 _ (tOwns elRt w0.heap.size 35 (.slice A32 (l.length + 1) c33) (putAt ss (q + 1) ((s : Int), (⟨B, ids.length, e⟩ : Sl))) :: tOwns elInt b 3 (.slice B ids.length e) ids :: tRS w0.heap.size (.slice (some ⟨gv, go, none⟩) l.length (q + 1)) ss (l.map fun r => ((s : Int), r)) :: tBlk gx 133 (srX A n c A' m d to (.slice A32 (l.length + 1) c33)) :: R) from by rw [HPU.out]; exact k2) HPS.out rfl hbb (Nat.le_refl _))
            clear k1 k2 q1 z1
            go_wp2_with fail
            go_end0
            refine ⟨rfl, .slice A32 (l.length + 1) c33, putAt ss (q + 1) ((s : Int), (⟨B, ids.length, e⟩ : Sl)), ?_⟩
            have e1 : (insR fs (s : Int) l ids).map (fun r => ((s : Int), r)) = putAt (l.map fun r => ((s : Int), r)) (q + 1) ((s : Int), ids) := by unfold insR; rw [HPL.out, putAt_map]
            rw [e1]
            exact k3.out
          refine AllReadyX.cons rfl (fun K hK => ?_) AllReadyX.nil
          have u37 := hid ((HS4.out).blk_ (wq.heap.size) (by simp) 35 #[.int .i64 (s : Int), .slice B ids.length e])
          have a38 := hid (u37.out.step (Cls.drew _))
          go_simp
          go_wp2_with fail
          refine hK.out _ _ (ptS_of a38.out 1 4 rfl rfl (by decide)) (fun hHeld => ?_)
          clear hK K
          try simp only [Act.put, List.getElem_toArray, List.getElem_cons_zero, List.getElem_cons_succ, List.setIfInBounds_toArray, List.set_cons_zero, List.set_cons_succ]
          refine wpAnyX_ready (rs := [1]) (by kernel_rfl) (by simp) ?_
          refine AllReadyX.cons rfl (fun K hK => ?_) AllReadyX.nil
          have u39 := hid ((u37.out).empty elRt 35 (wq.heap.size + 1) (by simp) w0.heap.size (by have := HS4.out.bl.size; have := (u37.out).bl.size; simp at *; omega))
          have a40 := hid (u39.out.step (Cls.drew _))
          go_simp
          go_wp2_with fail
          refine hK.out _ _ (ptS_of a40.out 2 5 rfl rfl (by decide)) (fun hHeld => ?_)
          clear hK K
          try simp only [Act.put, List.getElem_toArray, List.getElem_cons_zero, List.getElem_cons_succ, List.setIfInBounds_toArray, List.set_cons_zero, List.set_cons_succ]
          refine wpAnyX_ready (rs := [8]) (by kernel_rfl) (by simp) ?_
          refine AllReadyX.cons rfl (fun K hK => ?_) AllReadyX.nil
          refine step_append_led rfl _ _ 30 rfl (a40.out) 0 rfl Try.underlying30 hi hz0 hz1 (by rw [hz2]; decide) rfl rfl rfl (((a40.out).seesRS 4 rfl).take (k := (q + 1)) HP4.out) ((by first | (simp; done) | (simp; omega))) (by have := (a40.out).bl.size; simp at *; omega) ?_
          intro A41 c42 v43 h44
          rw [show ([] : List (Int × Sl)).length + (q + 1) = (q + 1) by simp, List.nil_append] at h44
          rw [show ([] : List (Int × Sl)).length + (q + 1) = (q + 1) by simp]
          have k45 := hid h44
          clear h44
          refine hK.out _ _ (ptS_of k45.out 2 5 rfl rfl (by decide)) (fun hHeld => ?_)
          clear hK K
          try simp only [Act.put, List.getElem_toArray, List.getElem_cons_zero, List.getElem_cons_succ, List.setIfInBounds_toArray, List.set_cons_zero, List.set_cons_succ]
          refine wpAnyX_ready (rs := [11]) (by kernel_rfl) (by simp) ?_
          refine AllReadyX.cons rfl (fun K hK => ?_) AllReadyX.nil
          refine step_append_led rfl _ _ 30 rfl (k45.out) 0 rfl Try.underlying30 hi hz0 hz1 (by rw [hz2]; decide) rfl rfl rfl (sees_rt ((k45.out).get 1 rfl)) ((by rw [HT.out]; omega)) (by have := (k45.out).bl.size; simp at *; omega) ?_
          intro A46 c47 v48 h49
          rw [HT.out] at h49
          rw [HT.out]
          have k50 := hid h49
          clear h49
          refine hK.out _ _ (ptS_of k50.out 2 5 rfl rfl (by decide)) (fun hHeld => ?_)
          clear hK K
          try simp only [Act.put, List.getElem_toArray, List.getElem_cons_zero, List.getElem_cons_succ, List.setIfInBounds_toArray, List.set_cons_zero, List.set_cons_succ]
          refine wpAnyX_ready (rs := [18]) (by kernel_rfl) (by simp) ?_
          refine AllReadyX.cons rfl (fun K hK => ?_) AllReadyX.nil
          refine step_append_led rfl _ _ 30 rfl (k50.out) 0 rfl Try.underlying30 hi hz0 hz1 (by rw [hz2]; decide) rfl rfl rfl ((Sees.backZ ((k50.out).seesRS 4 rfl) HZ.out)) ((by rw [List.length_append, HT.out]; simp; omega)) (by have := (k50.out).bl.size; simp at *; omega) ?_
          intro A51 c52 v53 h54
          rw [show (ss.take (q + 1) ++ [((s : Int), (⟨B, ids.length, e⟩ : Sl))]).length + (0) = l.length + 1 by rw [List.length_append, HT.out]; have := HP4.out; simp; try omega] at h54 ⊢
          have k55 := hid h54
          clear h54
          refine hK.out _ _ (ptS_of k55.out 2 5 rfl rfl (by decide)) (fun hHeld => ?_)
          clear hK K
          try simp only [Act.put, List.getElem_toArray, List.getElem_cons_zero, List.getElem_cons_succ, List.setIfInBounds_toArray, List.set_cons_zero, List.set_cons_succ]
          refine wpAnyX_ready (rs := [19]) (by kernel_rfl) (by simp) ?_
          refine AllReadyX.cons rfl (fun K hK => ?_) AllReadyX.nil
          go_simp
          refine hK.out _ _ (ptS_of k55.out 2 5 rfl rfl (by decide)) (fun hHeld => ?_)
          clear hK K
          try simp only [Act.put, List.getElem_toArray, List.getElem_cons_zero, List.getElem_cons_succ, List.setIfInBounds_toArray, List.set_cons_zero, List.set_cons_succ]
          refine wpAnyX_take (i := 20) (oi := _) (v := ?_) rfl (by kernel_rfl) (by kernel_rfl) (by kernel_rfl) (by kernel_rfl) (fun _ _ _ h => h) (Or.inl ⟨by rfl, ?_⟩) (by assumption) ?_
          rotate_left
          · intro w hSw; go_simp; with_reducible rfl
          simp only [Act.put, List.getElem_toArray, List.getElem_cons_zero, List.getElem_cons_succ, List.setIfInBounds_toArray, List.set_cons_zero, List.set_cons_succ]
          have q1 := (k55.out).cell 5 3 rfl rfl
          have z1 := (k55.out).frozen 5 3 rfl
          have k1 := hid ((k55.out).set 5 rfl 3 (.slice A51 (l.length + 1) c52))
          refine wpAnyX_ready (rs := [21]) (by kernel_rfl) (by simp) ?_
          refine AllReadyX.last rfl (fun K hK => ?_)
          go_simp
          refine hK.out _ _ ?_
          clear hK K
          try simp only [Act.put, List.getElem_toArray, List.getElem_cons_zero, List.getElem_cons_succ, List.setIfInBounds_toArray, List.set_cons_zero, List.set_cons_succ]
          refine wpAnyX_done (by kernel_rfl) ?_ _
          have k2 := Led.front (P := [_, _, _, _, _, _]) (R := R) k1.out [0, 3, 4, 5] (by decide) rfl
          have k3 := hid (Led.relist (p := (q + 1)) (s0 := ((s : Int), (⟨B, ids.length, e⟩ : Sl))) (r0 := ((s : Int), ids)) (R := tBlk gx 133 (srX A n c A' m d to (.slice A51 (l.length + 1) c52)) :: R) (show Led w0 _ (tOwns elRt w0.heap.size 35 (.slice A51 (l.length + 1) c52) (putAt ss (q + 1) ((s : Int), (⟨B, ids.length, e⟩ : Sl))) :: tOwns elInt b 3 (.slice B ids.length e) ids :: tRS w0.heap.size (.slice (some ⟨gv, go, none⟩) l.length (q + 1)) ss (l.map fun r => ((s : Int), r)) :: tBlk gx 133 (srX A n c A' m d to (.slice A51 (l.length + 1) c52)) :: R) from by rw [HPU.out]; exact k2) HPS.out rfl hbb (Nat.le_refl _))
          clear k1 k2 q1 z1
          go_wp2_with fail
          go_end0
          refine ⟨rfl, .slice A51 (l.length + 1) c52, putAt ss (q + 1) ((s : Int), (⟨B, ids.length, e⟩ : Sl)), ?_⟩
          have e1 : (insR fs (s : Int) l ids).map (fun r => ((s : Int), r)) = putAt (l.map fun r => ((s : Int), r)) (q + 1) ((s : Int), ids) := by unfold insR; rw [HPL.out, putAt_map]
          rw [e1]
          exact k3.out
        · have ik2 : (q : Int) + 1 ≤ (cV : Int) := by omega
          have hbz := Below.refl 0 wq
          obtain ⟨i0, hi, hz0, hz1, hz2⟩ := info_parts rt_info
          have E0 : ∀ w', ptS w0 gx w.heap.size A n c A' m d to s (.slice (some ⟨gv, go, none⟩) l.length cV) B ids.length e w' → w'.cell? ⟨w.heap.size, 0, none⟩ = some (.int .i64 (s : Int)) := fun _ h => Led.cell h 0 0 rfl rfl
          have E1 : ∀ w', ptS w0 gx w.heap.size A n c A' m d to s (.slice (some ⟨gv, go, none⟩) l.length cV) B ids.length e w' → w'.cell? ⟨w.heap.size, 1, none⟩ = some (.slice B ids.length e) := fun _ h => Led.cell h 0 1 rfl rfl
          have E2 : ∀ w', ptS w0 gx w.heap.size A n c A' m d to s (.slice (some ⟨gv, go, none⟩) l.length cV) B ids.length e w' → w'.cell? ⟨gx, 3, none⟩ = some (.slice (some ⟨gv, go, none⟩) l.length cV) := fun _ h => Led.cell h 1 3 rfl rfl
          have HM := hid (mem_ptS (HS4.out.step (Cls.drew wq)))
          refine wp_region_heldX 21 (ptS w0 gx w.heap.size A n c A' m d to s (.slice (some ⟨gv, go, none⟩) l.length cV) B ids.length e) (by kernel_rfl) (HM.out) (fun hHeld => ?_)
          refine wpAnyX_take (i := 0) (oi := _) (v := ?_) rfl (by kernel_rfl) (by kernel_rfl) (by kernel_rfl) (by kernel_rfl) (fun _ _ _ h => h) (Or.inl ⟨by rfl, ?_⟩) (by assumption) ?_
          rotate_left
          · intro w hSw; go_simp; with_reducible rfl
          simp only [Act.put, List.getElem_toArray, List.getElem_cons_zero, List.setIfInBounds_toArray, List.set_cons_zero, List.set_cons_succ]
          refine wpAnyX_take (i := 2) (oi := _) (v := ?_) rfl (by kernel_rfl) (by kernel_rfl) (by kernel_rfl) (by kernel_rfl) (fun _ _ _ h => h) (Or.inl ⟨by rfl, ?_⟩) (by assumption) ?_
          rotate_left
          · intro w hSw; go_simp; with_reducible rfl
          simp only [Act.put, List.getElem_toArray, List.getElem_cons_zero, List.getElem_cons_succ, List.setIfInBounds_toArray, List.set_cons_zero, List.set_cons_succ]
          refine wpAnyX_take (i := 3) (oi := _) (v := ?_) rfl (by kernel_rfl) (by kernel_rfl) (by kernel_rfl) (by kernel_rfl) (fun _ _ _ h => h) (Or.inl ⟨by rfl, ?_⟩) (by assumption) ?_
          rotate_left
          · intro w hSw; go_simp; with_reducible rfl
          simp only [Act.put, List.getElem_toArray, List.getElem_cons_zero, List.getElem_cons_succ, List.setIfInBounds_toArray, List.set_cons_zero, List.set_cons_succ]
          refine wpAnyX_take (i := 4) (oi := _) (v := ?_) rfl (by kernel_rfl) (by kernel_rfl) (by kernel_rfl) (by kernel_rfl) (fun _ _ _ h => h) (Or.inl ⟨by rfl, ?_⟩) (by assumption) ?_
          rotate_left
          · intro w hSw; go_simp; with_reducible rfl
          simp only [Act.put, List.getElem_toArray, List.getElem_cons_zero, List.getElem_cons_succ, List.setIfInBounds_toArray, List.set_cons_zero, List.set_cons_succ]
          refine wpAnyX_take (i := 5) (oi := _) (v := ?_) rfl (by kernel_rfl) (by kernel_rfl) (by kernel_rfl) (by kernel_rfl) (fun _ _ _ h => h) (Or.inl ⟨by rfl, ?_⟩) (by assumption) ?_
          rotate_left
          · intro w hSw; go_simp; with_reducible rfl
          simp only [Act.put, List.getElem_toArray, List.getElem_cons_zero, List.getElem_cons_succ, List.setIfInBounds_toArray, List.set_cons_zero, List.set_cons_succ]
          refine wpAnyX_take (i := 6) (oi := _) (v := ?_) rfl (by kernel_rfl) (by kernel_rfl) (by kernel_rfl) (by kernel_rfl) (fun _ _ _ h => h) (Or.inl ⟨by rfl, ?_⟩) (by assumption) ?_
          rotate_left
          · intro w hSw; go_simp; with_reducible rfl
          simp only [Act.put, List.getElem_toArray, List.getElem_cons_zero, List.getElem_cons_succ, List.setIfInBounds_toArray, List.set_cons_zero, List.set_cons_succ]
          refine wpAnyX_take (i := 7) (oi := _) (v := ?_) rfl (by kernel_rfl) (by kernel_rfl) (by kernel_rfl) (by kernel_rfl) (fun _ _ _ h => h) (Or.inl ⟨by rfl, ?_⟩) (by assumption) ?_
          rotate_left
          · intro w hSw; go_simp; with_reducible rfl
          simp only [Act.put, List.getElem_toArray, List.getElem_cons_zero, List.getElem_cons_succ, List.setIfInBounds_toArray, List.set_cons_zero, List.set_cons_succ]
          refine wpAnyX_take (i := 9) (oi := _) (v := ?_) rfl (by kernel_rfl) (by kernel_rfl) (by kernel_rfl) (by kernel_rfl) (fun _ _ _ h => h) (Or.inl ⟨by rfl, ?_⟩) (by assumption) ?_
          rotate_left
          · intro w hSw; go_simp; with_reducible rfl
          simp only [Act.put, List.getElem_toArray, List.getElem_cons_zero, List.getElem_cons_succ, List.setIfInBounds_toArray, List.set_cons_zero, List.set_cons_succ]
          refine wpAnyX_take (i := 12) (oi := _) (v := ?_) rfl (by kernel_rfl) (by kernel_rfl) (by kernel_rfl) (by kernel_rfl) (fun _ _ _ h => h) (Or.inl ⟨by rfl, ?_⟩) (by assumption) ?_
          rotate_left
          · intro w hSw; go_simp; with_reducible rfl
          simp only [Act.put, List.getElem_toArray, List.getElem_cons_zero, List.getElem_cons_succ, List.setIfInBounds_toArray, List.set_cons_zero, List.set_cons_succ]
          refine wpAnyX_take (i := 13) (oi := _) (v := ?_) rfl (by kernel_rfl) (by kernel_rfl) (by kernel_rfl) (by kernel_rfl) (fun _ _ _ h => h) (Or.inl ⟨by rfl, ?_⟩) (by assumption) ?_
          rotate_left
          · intro w hSw; go_simp; with_reducible rfl
          simp only [Act.put, List.getElem_toArray, List.getElem_cons_zero, List.getElem_cons_succ, List.setIfInBounds_toArray, List.set_cons_zero, List.set_cons_succ]
          refine wpAnyX_take (i := 14) (oi := _) (v := ?_) rfl (by kernel_rfl) (by kernel_rfl) (by kernel_rfl) (by kernel_rfl) (fun _ _ _ h => h) (Or.inl ⟨by rfl, ?_⟩) (by assumption) ?_
          rotate_left
          · intro w hSw; go_simp; with_reducible rfl
          simp only [Act.put, List.getElem_toArray, List.getElem_cons_zero, List.getElem_cons_succ, List.setIfInBounds_toArray, List.set_cons_zero, List.set_cons_succ]
          refine wpAnyX_take (i := 15) (oi := _) (v := ?_) rfl (by kernel_rfl) (by kernel_rfl) (by kernel_rfl) (by kernel_rfl) (fun _ _ _ h => h) (Or.inl ⟨by rfl, ?_⟩) (by assumption) ?_
          rotate_left
          · intro w hSw; go_simp; with_reducible rfl
          simp only [Act.put, List.getElem_toArray, List.getElem_cons_zero, List.getElem_cons_succ, List.setIfInBounds_toArray, List.set_cons_zero, List.set_cons_succ]
          refine wpAnyX_take (i := 16) (oi := _) (v := ?_) rfl (by kernel_rfl) (by kernel_rfl) (by kernel_rfl) (by kernel_rfl) (fun _ _ _ h => h) (Or.inl ⟨by rfl, ?_⟩) (by assumption) ?_
          rotate_left
          · intro w hSw; go_simp; with_reducible rfl
          simp only [Act.put, List.getElem_toArray, List.getElem_cons_zero, List.getElem_cons_succ, List.setIfInBounds_toArray, List.set_cons_zero, List.set_cons_succ]
          refine wpAnyX_take (i := 17) (oi := _) (v := ?_) rfl (by kernel_rfl) (by kernel_rfl) (by kernel_rfl) (by kernel_rfl) (fun _ _ _ h => h) (Or.inl ⟨by rfl, ?_⟩) (by assumption) ?_
          rotate_left
          · intro w hSw; go_simp; with_reducible rfl
          simp only [Act.put, List.getElem_toArray, List.getElem_cons_zero, List.getElem_cons_succ, List.setIfInBounds_toArray, List.set_cons_zero, List.set_cons_succ]
          refine wpAnyX_ready (rs := [1, 10]) (by kernel_rfl) (by simp) ?_
          refine AllReadyX.cons rfl (fun K hK => ?_) ?_
          · skip
            have u1 := hid ((HS4.out).empty elRt 35 (wq.heap.size) (by simp) w0.heap.size (by have := HS4.out.bl.size; have := (HS4.out).bl.size; simp at *; omega))
            have a2 := hid (u1.out.step (Cls.drew _))
            go_simp
            go_wp2_with fail
            refine hK.out _ _ (ptS_of a2.out 1 4 rfl rfl (by decide)) (fun hHeld => ?_)
            clear hK K
            try simp only [Act.put, List.getElem_toArray, List.getElem_cons_zero, List.getElem_cons_succ, List.setIfInBounds_toArray, List.set_cons_zero, List.set_cons_succ]
            refine wpAnyX_ready (rs := [8, 10]) (by kernel_rfl) (by simp) ?_
            refine AllReadyX.cons rfl (fun K hK => ?_) ?_
            · skip
              refine step_append_led rfl _ _ 30 rfl (a2.out) 0 rfl Try.underlying30 hi hz0 hz1 (by rw [hz2]; decide) rfl rfl rfl (((a2.out).seesRS 3 rfl).take (k := (q + 1)) HP4.out) ((by first | (simp; done) | (simp; omega))) (by have := (a2.out).bl.size; simp at *; omega) ?_
              intro A3 c4 v5 h6
              rw [show ([] : List (Int × Sl)).length + (q + 1) = (q + 1) by simp, List.nil_append] at h6
              rw [show ([] : List (Int × Sl)).length + (q + 1) = (q + 1) by simp]
              have k7 := hid h6
              clear h6
              refine hK.out _ _ (ptS_of k7.out 1 4 rfl rfl (by decide)) (fun hHeld => ?_)
              clear hK K
              try simp only [Act.put, List.getElem_toArray, List.getElem_cons_zero, List.getElem_cons_succ, List.setIfInBounds_toArray, List.set_cons_zero, List.set_cons_succ]
              refine wpAnyX_ready (rs := [10]) (by kernel_rfl) (by simp) ?_
              refine AllReadyX.cons rfl (fun K hK => ?_) AllReadyX.nil
              have u8 := hid ((k7.out).blk_ (v5.heap.size) (by simp) 35 #[.int .i64 (s : Int), .slice B ids.length e])
              go_simp
              go_wp2_with fail
              refine hK.out _ _ (ptS_of u8.out 2 5 rfl rfl (by decide)) (fun hHeld => ?_)
              clear hK K
              try simp only [Act.put, List.getElem_toArray, List.getElem_cons_zero, List.getElem_cons_succ, List.setIfInBounds_toArray, List.set_cons_zero, List.set_cons_succ]
              refine wpAnyX_ready (rs := [11]) (by kernel_rfl) (by simp) ?_
              refine AllReadyX.cons rfl (fun K hK => ?_) AllReadyX.nil
              refine step_append_led rfl _ _ 30 rfl (u8.out) 1 rfl Try.underlying30 hi hz0 hz1 (by rw [hz2]; decide) rfl rfl rfl (sees_rt ((u8.out).get 0 rfl)) ((by rw [HT.out]; omega)) (by have := (u8.out).bl.size; simp at *; omega) ?_
              intro A10 c11 v12 h13
              rw [HT.out] at h13
              rw [HT.out]
              have k14 := hid h13
              clear h13
              refine hK.out _ _ (ptS_of k14.out 2 5 rfl rfl (by decide)) (fun hHeld => ?_)
              clear hK K
              try simp only [Act.put, List.getElem_toArray, List.getElem_cons_zero, List.getElem_cons_succ, List.setIfInBounds_toArray, List.set_cons_zero, List.set_cons_succ]
              refine wpAnyX_ready (rs := [18]) (by kernel_rfl) (by simp) ?_
              refine AllReadyX.cons rfl (fun K hK => ?_) AllReadyX.nil
              refine step_append_led rfl _ _ 30 rfl (k14.out) 1 rfl Try.underlying30 hi hz0 hz1 (by rw [hz2]; decide) rfl rfl rfl ((Sees.backR ((k14.out).seesRS 4 rfl) HP4.out)) ((by rw [List.length_append, HT.out]; simp; omega)) (by have := (k14.out).bl.size; simp at *; omega) ?_
              intro A15 c16 v17 h18
              rw [show (ss.take (q + 1) ++ [((s : Int), (⟨B, ids.length, e⟩ : Sl))]).length + (l.length - (q + 1)) = l.length + 1 by rw [List.length_append, HT.out]; have := HP4.out; simp; try omega] at h18 ⊢
              have k19 := hid h18
              clear h18
              refine hK.out _ _ (ptS_of k19.out 2 5 rfl rfl (by decide)) (fun hHeld => ?_)
              clear hK K
              try simp only [Act.put, List.getElem_toArray, List.getElem_cons_zero, List.getElem_cons_succ, List.setIfInBounds_toArray, List.set_cons_zero, List.set_cons_succ]
              refine wpAnyX_ready (rs := [19]) (by kernel_rfl) (by simp) ?_
              refine AllReadyX.cons rfl (fun K hK => ?_) AllReadyX.nil
              go_simp
              refine hK.out _ _ (ptS_of k19.out 2 5 rfl rfl (by decide)) (fun hHeld => ?_)
              clear hK K
              try simp only [Act.put, List.getElem_toArray, List.getElem_cons_zero, List.getElem_cons_succ, List.setIfInBounds_toArray, List.set_cons_zero, List.set_cons_succ]
              refine wpAnyX_take (i := 20) (oi := _) (v := ?_) rfl (by kernel_rfl) (by kernel_rfl) (by kernel_rfl) (by kernel_rfl) (fun _ _ _ h => h) (Or.inl ⟨by rfl, ?_⟩) (by assumption) ?_
              rotate_left
              · intro w hSw; go_simp; with_reducible rfl
              simp only [Act.put, List.getElem_toArray, List.getElem_cons_zero, List.getElem_cons_succ, List.setIfInBounds_toArray, List.set_cons_zero, List.set_cons_succ]
              have q1 := (k19.out).cell 5 3 rfl rfl
              have z1 := (k19.out).frozen 5 3 rfl
              have k1 := hid ((k19.out).set 5 rfl 3 (.slice A15 (l.length + 1) c16))
              refine wpAnyX_ready (rs := [21]) (by kernel_rfl) (by simp) ?_
              refine AllReadyX.last rfl (fun K hK => ?_)
              go_simp
              refine hK.out _ _ ?_
              clear hK K
              try simp only [Act.put, List.getElem_toArray, List.getElem_cons_zero, List.getElem_cons_succ, List.setIfInBounds_toArray, List.set_cons_zero, List.set_cons_succ]
              refine wpAnyX_done (by kernel_rfl) ?_ _
              have k2 := Led.front (P := [_, _, _, _, _, _]) (R := R) k1.out [1, 3, 4, 5] (by decide) rfl
              have k3 := hid (Led.relist (p := (q + 1)) (s0 := ((s : Int), (⟨B, ids.length, e⟩ : Sl))) (r0 := ((s : Int), ids)) (R := tBlk gx 133 (srX A n c A' m d to (.slice A15 (l.length + 1) c16)) :: R) (show Led w0 _ (tOwns elRt w0.heap.size 35 (.slice A15 (l.length + 1) c16) (putAt ss (q + 1) ((s : Int), (⟨B, ids.length, e⟩ : Sl))) :: tOwns elInt b 3 (.slice B ids.length e) ids :: tRS w0.heap.size (.slice (some ⟨gv, go, none⟩) l.length cV) ss (l.map fun r => ((s : Int), r)) :: tBlk gx 133 (srX A n c A' m d to (.slice A15 (l.length + 1) c16)) :: R) from by rw [HPU.out]; exact k2) HPS.out rfl hbb (Nat.le_refl _))
              clear k1 k2 q1 z1
              go_wp2_with fail
              go_end0
              refine ⟨rfl, .slice A15 (l.length + 1) c16, putAt ss (q + 1) ((s : Int), (⟨B, ids.length, e⟩ : Sl)), ?_⟩
              have e1 : (insR fs (s : Int) l ids).map (fun r => ((s : Int), r)) = putAt (l.map fun r => ((s : Int), r)) (q + 1) ((s : Int), ids) := by unfold insR; rw [HPL.out, putAt_map]
              rw [e1]
              exact k3.out
            refine AllReadyX.cons rfl (fun K hK => ?_) AllReadyX.nil
            have u20 := hid ((u1.out).blk_ (wq.heap.size + 1) (by simp) 35 #[.int .i64 (s : Int), .slice B ids.length e])
            have a21 := hid (u20.out.step (Cls.drew _))
            go_simp
            go_wp2_with fail
            refine hK.out _ _ (ptS_of a21.out 2 5 rfl rfl (by decide)) (fun hHeld => ?_)
            clear hK K
            try simp only [Act.put, List.getElem_toArray, List.getElem_cons_zero, List.getElem_cons_succ, List.setIfInBounds_toArray, List.set_cons_zero, List.set_cons_succ]
            refine wpAnyX_ready (rs := [8]) (by kernel_rfl) (by simp) ?_
            refine AllReadyX.cons rfl (fun K hK => ?_) AllReadyX.nil
            refine step_append_led rfl _ _ 30 rfl (a21.out) 1 rfl Try.underlying30 hi hz0 hz1 (by rw [hz2]; decide) rfl rfl rfl (((a21.out).seesRS 4 rfl).take (k := (q + 1)) HP4.out) ((by first | (simp; done) | (simp; omega))) (by have := (a21.out).bl.size; simp at *; omega) ?_
            intro A22 c23 v24 h25
            rw [show ([] : List (Int × Sl)).length + (q + 1) = (q + 1) by simp, List.nil_append] at h25
            rw [show ([] : List (Int × Sl)).length + (q + 1) = (q + 1) by simp]
            have k26 := hid h25
            clear h25
            refine hK.out _ _ (ptS_of k26.out 2 5 rfl rfl (by decide)) (fun hHeld => ?_)
            clear hK K
            try simp only [Act.put, List.getElem_toArray, List.getElem_cons_zero, List.getElem_cons_succ, List.setIfInBounds_toArray, List.set_cons_zero, List.set_cons_succ]
            refine wpAnyX_ready (rs := [11]) (by kernel_rfl) (by simp) ?_
            refine AllReadyX.cons rfl (fun K hK => ?_) AllReadyX.nil
            refine step_append_led rfl _ _ 30 rfl (k26.out) 1 rfl Try.underlying30 hi hz0 hz1 (by rw [hz2]; decide) rfl rfl rfl (sees_rt ((k26.out).get 0 rfl)) ((by rw [HT.out]; omega)) (by have := (k26.out).bl.size; simp at *; omega) ?_
            intro A27 c28 v29 h30
            rw [HT.out] at h30
            rw [HT.out]
            have k31 := hid h30
            clear h30
            refine hK.out _ _ (ptS_of k31.out 2 5 rfl rfl (by decide)) (fun hHeld => ?_)
            clear hK K
            try simp only [Act.put, List.getElem_toArray, List.getElem_cons_zero, List.getElem_cons_succ, List.setIfInBounds_toArray, List.set_cons_zero, List.set_cons_succ]
            refine wpAnyX_ready (rs := [18]) (by kernel_rfl) (by simp) ?_
            refine AllReadyX.cons rfl (fun K hK => ?_) AllReadyX.nil
            refine step_append_led rfl _ _ 30 rfl (k31.out) 1 rfl Try.underlying30 hi hz0 hz1 (by rw [hz2]; decide) rfl rfl rfl ((Sees.backR ((k31.out).seesRS 4 rfl) HP4.out)) ((by rw [List.length_append, HT.out]; simp; omega)) (by have := (k31.out).bl.size; simp at *; omega) ?_
            intro A32 c33 v34 h35
            rw [show (ss.take (q + 1) ++ [((s : Int), (⟨B, ids.length, e⟩ : Sl))]).length + (l.length - (q + 1)) = l.length + 1 by rw [List.length_append, HT.out]; have := HP4.out; simp; try omega] at h35 ⊢
            have k36 := hid h35
            clear h35
            refine hK.out _ _ (ptS_of k36.out 2 5 rfl rfl (by decide)) (fun hHeld => ?_)
            clear hK K
            try simp only [Act.put, List.getElem_toArray, List.getElem_cons_zero, List.getElem_cons_succ, List.setIfInBounds_toArray, List.set_cons_zero, List.set_cons_succ]
            refine wpAnyX_ready (rs := [19]) (by kernel_rfl) (by simp) ?_
            refine AllReadyX.cons rfl (fun K hK => ?_) AllReadyX.nil
            go_simp
            refine hK.out _ _ (ptS_of k36.out 2 5 rfl rfl (by decide)) (fun hHeld => ?_)
            clear hK K
            try simp only [Act.put, List.getElem_toArray, List.getElem_cons_zero, List.getElem_cons_succ, List.setIfInBounds_toArray, List.set_cons_zero, List.set_cons_succ]
            refine wpAnyX_take (i := 20) (oi := _) (v := ?_) rfl (by kernel_rfl) (by kernel_rfl) (by kernel_rfl) (by kernel_rfl) (fun _ _ _ h => h) (Or.inl ⟨by rfl, ?_⟩) (by assumption) ?_
            rotate_left
            · intro w hSw; go_simp; with_reducible rfl
            simp only [Act.put, List.getElem_toArray, List.getElem_cons_zero, List.getElem_cons_succ, List.setIfInBounds_toArray, List.set_cons_zero, List.set_cons_succ]
            have q1 := (k36.out).cell 5 3 rfl rfl
            have z1 := (k36.out).frozen 5 3 rfl
            have k1 := hid ((k36.out).set 5 rfl 3 (.slice A32 (l.length + 1) c33))
            refine wpAnyX_ready (rs := [21]) (by kernel_rfl) (by simp) ?_
            refine AllReadyX.last rfl (fun K hK => ?_)
            go_simp
            refine hK.out _ _ ?_
            clear hK K
            try simp only [Act.put, List.getElem_toArray, List.getElem_cons_zero, List.getElem_cons_succ, List.setIfInBounds_toArray, List.set_cons_zero, List.set_cons_succ]
            refine wpAnyX_done (by kernel_rfl) ?_ _
            have k2 := Led.front (P := [_, _, _, _, _, _]) (R := R) k1.out [1, 3, 4, 5] (by decide) rfl
            have k3 := hid (Led.relist (p := (q + 1)) (s0 := ((s : Int), (⟨B, ids.length, e⟩ : Sl))) (r0 := ((s : Int), ids)) (R := tBlk gx 133 (srX A n c A' m d to (.slice A32 (l.length + 1) c33)) :: R) (show Led w0 _ (tOwns elRt w0.heap.size 35 (.slice A32 (l.length + 1) c33) (putAt ss (q + 1) ((s : Int), (⟨B, ids.length, e⟩ : Sl))) :: tOwns elInt b 3 (.slice B ids.length e) ids :: tRS w0.heap.size (.slice (some ⟨gv, go, none⟩) l.length cV) ss (l.map fun r => ((s : Int), r)) :: tBlk gx 133 (srX A n c A' m d to (.slice A32 (l.length + 1) c33)) :: R) from by rw [HPU.out]; exact k2) HPS.out rfl hbb (Nat.le_refl _))
            clear k1 k2 q1 z1
            go_wp2_with fail
            go_end0
            refine ⟨rfl, .slice A32 (l.length + 1) c33, putAt ss (q + 1) ((s : Int), (⟨B, ids.length, e⟩ : Sl)), ?_⟩
            have e1 : (insR fs (s : Int) l ids).map (fun r => ((s : Int), r)) = putAt (l.map fun r => ((s : Int), r)) (q + 1) ((s : Int), ids) := by unfold insR; rw [HPL.out, putAt_map]
            rw [e1]
            exact k3.out
          refine AllReadyX.cons rfl (fun K hK => ?_) AllReadyX.nil
          have u37 := hid ((HS4.out).blk_ (wq.heap.size) (by simp) 35 #[.int .i64 (s : Int), .slice B ids.length e])
          have a38 := hid (u37.out.step (Cls.drew _))
          go_simp
          go_wp2_with fail
          refine hK.out _ _ (ptS_of a38.out 1 4 rfl rfl (by decide)) (fun hHeld => ?_)
          clear hK K
          try simp only [Act.put, List.getElem_toArray, List.getElem_cons_zero, List.getElem_cons_succ, List.setIfInBounds_toArray, List.set_cons_zero, List.set_cons_succ]
          refine wpAnyX_ready (rs := [1]) (by kernel_rfl) (by simp) ?_
          refine AllReadyX.cons rfl (fun K hK => ?_) AllReadyX.nil
          have u39 := hid ((u37.out).empty elRt 35 (wq.heap.size + 1) (by simp) w0.heap.size (by have := HS4.out.bl.size; have := (u37.out).bl.size; simp at *; omega))
          have a40 := hid (u39.out.step (Cls.drew _))
          go_simp
          go_wp2_with fail
          refine hK.out _ _ (ptS_of a40.out 2 5 rfl rfl (by decide)) (fun hHeld => ?_)
          clear hK K
          try simp only [Act.put, List.getElem_toArray, List.getElem_cons_zero, List.getElem_cons_succ, List.setIfInBounds_toArray, List.set_cons_zero, List.set_cons_succ]
          refine wpAnyX_ready (rs := [8]) (by kernel_rfl) (by simp) ?_
          refine AllReadyX.cons rfl (fun K hK => ?_) AllReadyX.nil
          refine step_append_led rfl _ _ 30 rfl (a40.out) 0 rfl Try.underlying30 hi hz0 hz1 (by rw [hz2]; decide) rfl rfl rfl (((a40.out).seesRS 4 rfl).take (k := (q + 1)) HP4.out) ((by first | (simp; done) | (simp; omega))) (by have := (a40.out).bl.size; simp at *; omega) ?_
          intro A41 c42 v43 h44
          rw [show ([] : List (Int × Sl)).length + (q + 1) = (q + 1) by simp, List.nil_append] at h44
          rw [show ([] : List (Int × Sl)).length + (q + 1) = (q + 1) by simp]
          have k45 := hid h44
          clear h44
          refine hK.out _ _ (ptS_of k45.out 2 5 rfl rfl (by decide)) (fun hHeld => ?_)
          clear hK K
          try simp only [Act.put, List.getElem_toArray, List.getElem_cons_zero, List.getElem_cons_succ, List.setIfInBounds_toArray, List.set_cons_zero, List.set_cons_succ]
          refine wpAnyX_ready (rs := [11]) (by kernel_rfl) (by simp) ?_
          refine AllReadyX.cons rfl (fun K hK => ?_) AllReadyX.nil
          refine step_append_led rfl _ _ 30 rfl (k45.out) 0 rfl Try.underlying30 hi hz0 hz1 (by rw [hz2]; decide) rfl rfl rfl (sees_rt ((k45.out).get 1 rfl)) ((by rw [HT.out]; omega)) (by have := (k45.out).bl.size; simp at *; omega) ?_
          intro A46 c47 v48 h49
          rw [HT.out] at h49
          rw [HT.out]
          have k50 := hid h49
          clear h49
          refine hK.out _ _ (ptS_of k50.out 2 5 rfl rfl (by decide)) (fun hHeld => ?_)
          clear hK K
          try simp only [Act.put, List.getElem_toArray, List.getElem_cons_zero, List.getElem_cons_succ, List.setIfInBounds_toArray, List.set_cons_zero, List.set_cons_succ]
          refine wpAnyX_ready (rs := [18]) (by kernel_rfl) (by simp) ?_
          refine AllReadyX.cons rfl (fun K hK => ?_) AllReadyX.nil
          refine step_append_led rfl _ _ 30 rfl (k50.out) 0 rfl Try.underlying30 hi hz0 hz1 (by rw [hz2]; decide) rfl rfl rfl ((Sees.backR ((k50.out).seesRS 4 rfl) HP4.out)) ((by rw [List.length_append, HT.out]; simp; omega)) (by have := (k50.out).bl.size; simp at *; omega) ?_
          intro A51 c52 v53 h54
          rw [show (ss.take (q + 1) ++ [((s : Int), (⟨B, ids.length, e⟩ : Sl))]).length + (l.length - (q + 1)) = l.length + 1 by rw [List.length_append, HT.out]; have := HP4.out; simp; try omega] at h54 ⊢
          have k55 := hid h54
          clear h54
          refine hK.out _ _ (ptS_of k55.out 2 5 rfl rfl (by decide)) (fun hHeld => ?_)
          clear hK K
          try simp only [Act.put, List.getElem_toArray, List.getElem_cons_zero, List.getElem_cons_succ, List.setIfInBounds_toArray, List.set_cons_zero, List.set_cons_succ]
          refine wpAnyX_ready (rs := [19]) (by kernel_rfl) (by simp) ?_
          refine AllReadyX.cons rfl (fun K hK => ?_) AllReadyX.nil
          go_simp
          refine hK.out _ _ (ptS_of k55.out 2 5 rfl rfl (by decide)) (fun hHeld => ?_)
          clear hK K
          try simp only [Act.put, List.getElem_toArray, List.getElem_cons_zero, List.getElem_cons_succ, List.setIfInBounds_toArray, List.set_cons_zero, List.set_cons_succ]
          refine wpAnyX_take (i := 20) (oi := _) (v := ?_) rfl (by kernel_rfl) (by kernel_rfl) (by kernel_rfl) (by kernel_rfl) (fun _ _ _ h => h) (Or.inl ⟨by rfl, ?_⟩) (by assumption) ?_
          rotate_left
          · intro w hSw; go_simp; with_reducible rfl
          simp only [Act.put, List.getElem_toArray, List.getElem_cons_zero, List.getElem_cons_succ, List.setIfInBounds_toArray, List.set_cons_zero, List.set_cons_succ]
          have q1 := (k55.out).cell 5 3 rfl rfl
          have z1 := (k55.out).frozen 5 3 rfl
          have k1 := hid ((k55.out).set 5 rfl 3 (.slice A51 (l.length + 1) c52))
          refine wpAnyX_ready (rs := [21]) (by kernel_rfl) (by simp) ?_
          refine AllReadyX.last rfl (fun K hK => ?_)
          go_simp
          refine hK.out _ _ ?_
          clear hK K
          try simp only [Act.put, List.getElem_toArray, List.getElem_cons_zero, List.getElem_cons_succ, List.setIfInBounds_toArray, List.set_cons_zero, List.set_cons_succ]
          refine wpAnyX_done (by kernel_rfl) ?_ _
          have k2 := Led.front (P := [_, _, _, _, _, _]) (R := R) k1.out [0, 3, 4, 5] (by decide) rfl
          have k3 := hid (Led.relist (p := (q + 1)) (s0 := ((s : Int), (⟨B, ids.length, e⟩ : Sl))) (r0 := ((s : Int), ids)) (R := tBlk gx 133 (srX A n c A' m d to (.slice A51 (l.length + 1) c52)) :: R) (show Led w0 _ (tOwns elRt w0.heap.size 35 (.slice A51 (l.length + 1) c52) (putAt ss (q + 1) ((s : Int), (⟨B, ids.length, e⟩ : Sl))) :: tOwns elInt b 3 (.slice B ids.length e) ids :: tRS w0.heap.size (.slice (some ⟨gv, go, none⟩) l.length cV) ss (l.map fun r => ((s : Int), r)) :: tBlk gx 133 (srX A n c A' m d to (.slice A51 (l.length + 1) c52)) :: R) from by rw [HPU.out]; exact k2) HPS.out rfl hbb (Nat.le_refl _))
          clear k1 k2 q1 z1
          go_wp2_with fail
          go_end0
          refine ⟨rfl, .slice A51 (l.length + 1) c52, putAt ss (q + 1) ((s : Int), (⟨B, ids.length, e⟩ : Sl)), ?_⟩
          have e1 : (insR fs (s : Int) l ids).map (fun r => ((s : Int), r)) = putAt (l.map fun r => ((s : Int), r)) (q + 1) ((s : Int), ids) := by unfold insR; rw [HPL.out, putAt_map]
          rw [e1]
          exact k3.out
end
end Go.Proofs.Ytfepilpllfiegaa
