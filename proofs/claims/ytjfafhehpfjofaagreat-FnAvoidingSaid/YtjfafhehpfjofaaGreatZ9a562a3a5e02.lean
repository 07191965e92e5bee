/- Lemmas and walks that the claim rests on, laid together. Conditions: none. -/
import Derived.Test.YtjfafhehpfjofaaGreatZ864e83883b1b
import Derived.Sort.Grow
import Derived.Deep.RegionHeld3
import Derived.Shelf.SlSortCmp.NoneTotal
import Derived.Ground.SlsfProg
import Derived.Test.YtjfafhehpfjofaaGreatProg
import Derived.Test.YtjfafhehpfjofaaGreatZ6bf9e9b909bb
import Derived.Test.YtjfafhehpfjofaaGreatZ366dab748d14
import Derived.Test.YtjfafhehpfjofaaGreatZ993f646c34a5
import Derived.Laws.EntriesVeiled
/- The order of routes with the worlds told as draws and new blocks. Conditions: as each states. By gen_grw.py. -/
namespace Go.Proofs.YtjfafhehpfjofaaGreat
open Go.RowKit Go.Sort
/-- Draws and new blocks. -/
def Grw (w w' : World) : Prop := ∃ (q : Nat) (os : Array Obj), w' = grow (w.drewN q) os
theorem Grw.refl (w : World) : Grw w w := ⟨0, #[], by rw [grow_empty]; rfl⟩
theorem Grw.trans {w w1 w2 : World} (h : Grw w w1) (k : Grw w1 w2) : Grw w w2 := by
  obtain ⟨q, os, rfl⟩ := h
  obtain ⟨q2, os2, rfl⟩ := k
  exact ⟨q + q2, os ++ os2, by show grow (grow ((w.drewN q).drewN q2) os) os2 = _; rw [grow_grow, World.drewN_drewN]⟩
theorem Grw.alloc {w w1 : World} (h : Grw w w1) (o : Obj) : Grw w (w1.alloc o) := h.trans ⟨0, #[o], by rw [alloc_eq_grow]; rfl⟩
theorem Grw.drew (w : World) : Grw w w.drew := ⟨1, #[], by rw [grow_empty]; rfl⟩
theorem Grw.below {w w' : World} (h : Grw w w') : Cls w w' := by
  obtain ⟨q, os, rfl⟩ := h
  refine ⟨rfl, rfl, rfl, ?_, fun k hk => ?_⟩
  · show w.heap.size ≤ (w.heap ++ os).size
    rw [Array.size_append]; omega
  · show (w.heap ++ os)[k]? = w.heap[k]?
    rw [Array.getElem?_append_left hk]
section
variable {n c m d er eq : Nat} {A A' R Q : Option Addr} {xs : List ByteArray} {fs : List Fib} {s t : Int} {ids jds : List Int}
set_option maxHeartbeats 1000000 in
set_option maxRecDepth 100000 in
theorem lengthOf_grw (w : World) (h : NetIs w A n c A' m d xs fs) (hr : RtIs w R ids.length er ids) (hin : ∀ x ∈ ids, 0 ≤ x ∧ x < fs.length) (hl : ∀ f ∈ fs, 0 ≤ f.len ∧ f.len ≤ 5000) :
    Calls Tryz.prog 25 #[.agg #[.slice A n c, .slice A' m d], .agg #[.int .i64 s, .slice R ids.length er]] w fun e w' => e = .returned (.int .i64 (lenR fs ids)) ∧ Grw w w' := by
  have hS := ((Led.nil w).blk_ w.heap.size rfl 27 #[.slice A n c, .slice A' m d]).blk_ (w.heap.size + 1) (by simp) 32 #[.int .i64 s, .slice R ids.length er]
  have hbd := hid (rlTo_bd hl hin)
  have HIN := hid hin
  have hkr := hr.le
  have hm := h.mle
  have hlf := hid h.flen
  have HS := hid hS
  have HG : Hid (Grw w ((w.alloc (.cells #[.slice A n c, .slice A' m d] 27)).alloc (.cells #[.int .i64 s, .slice R ids.length er] 32))) := ((Grw.refl w).alloc _).alloc _
  have HF := hid h
  have HR := hid hr
  clear hin hl hS h hr
  go_enter Tryz.func25, Tryz.ntmps25
  go_wp2_with fail
  go_loopw [5, 11] (fun t i wr => ∃ (k : Nat) (r : Int), k ≤ ids.length ∧ i = .int .i64 k ∧ t = .int .i64 r ∧ Hid (r = rlTo fs ids k) ∧ Hid (Led w wr [tBlk (w.heap.size + 1) 32 #[.int .i64 s, .slice R ids.length er], tBlk w.heap.size 27 #[.slice A n c, .slice A' m d]]) ∧ Hid (Grw w wr)) (fun _ i _ => ids.length - (intOf i).toNat)
  case atStart => exact ⟨0, 0, Nat.zero_le _, rfl, rfl, (rlTo_zero fs ids).symm, HS, HG⟩
  case round =>
    clear HS HG
    obtain ⟨k, r, hk, rfl, rfl, hre, HS, HG⟩ := hrel
    have p1 := HS.out.cell 1 1 rfl rfl
    have p3 := HS.out.cell 0 1 rfl rfl
    by_cases hlt : k < ids.length
    · obtain ⟨ib, io, rfl, _, hc⟩ := HR.out.2.at_ hlt
      obtain ⟨x, hxk⟩ := get_of (k := k) rfl hlt
      have hx := HIN.out x (List.mem_of_getElem? hxk)
      rw [hlf.out] at hx
      obtain ⟨j, rfl⟩ : ∃ j : Nat, x = (j : Int) := ⟨x.toNat, by omega⟩
      obtain ⟨b, o, rfl, _, hd⟩ := HF.out.fibs.at_ (k := j) (by omega)
      obtain ⟨f, hfj⟩ := get_of (k := j) hlf.out (by omega)
      have e0 := bl_cell HS.out.bl (hc k _ hxk 0 _ rfl)
      have f2 := bl_cell HS.out.bl (hd j f hfj 2 _ rfl)
      simp only [elFib, elInt, Nat.mul_one, Nat.add_zero] at e0 f2
      have b1 := hbd.out k (by omega)
      have b2 := hbd.out (k + 1) (by omega)
      have HN : Hid (rlTo fs ids (k + 1) = r + f.len) := by unfold Hid; rw [rlTo_succ hxk (by simpa using hfj), ← hre.out]
      rw [← hre.out] at b1
      rw [HN.out] at b2
      have iw : IntKind.i64.wrap (r + f.len) = r + f.len := IntWalk.i64_in _ (by omega)
      have ik : (k : Int) < (ids.length : Int) := by omega
      clear hc hd hxk hfj
      go_wp2
      go_roundw
      case rel => exact ⟨k + 1, _, by omega, by go_num, rfl, HN.out.symm, HS, HG⟩
      case measure => simp [intOf]; omega
    · have hkm : k = ids.length := by omega
      have HE : Hid (r = lenR fs ids) := by rw [hkm] at hre; exact hre
      clear hlt hre
      go_wp2
      go_ret
      exact ⟨by rw [HE.out]; rfl, HG.out⟩
set_option maxHeartbeats 2000000 in
set_option maxRecDepth 100000 in
theorem compareRoutes_grw (w : World) (h : NetIs w A n c A' m d xs fs) (hr : RtIs w R ids.length er ids) (hq : RtIs w Q jds.length eq jds) (hl : ∀ f ∈ fs, 0 ≤ f.len ∧ f.len ≤ 5000) (hi : ∀ x ∈ ids, 0 ≤ x ∧ x < fs.length) (hj : ∀ x ∈ jds, 0 ≤ x ∧ x < fs.length) :
    Calls Tryz.prog 57 #[.agg #[.slice A n c, .slice A' m d], .agg #[.int .i64 s, .slice R ids.length er], .agg #[.int .i64 t, .slice Q jds.length eq]] w fun e w' => e = .returned (.int .i64 (ordR fs s ids t jds)) ∧ Grw w w' := by
  have hS := (((Led.nil w).blk_ w.heap.size rfl 27 #[.slice A n c, .slice A' m d]).blk_ (w.heap.size + 1) (by simp) 32 #[.int .i64 s, .slice R ids.length er]).blk_ (w.heap.size + 1 + 1) (by simp) 32 #[.int .i64 t, .slice Q jds.length eq]
  have hri := hr.le
  have hqi := hq.le
  have H : Hid (ordR fs s ids t jds = orI [cmpB (lenR fs ids) (lenR fs jds), cmpB (ids.length : Int) (jds.length : Int), cmpL ids jds, cmpB s t]) := rfl
  have HL : Hid (∀ w', Grw w w' → Calls Tryz.prog 25 #[.agg #[.slice A n c, .slice A' m d], .agg #[.int .i64 s, .slice R ids.length er]] w' fun e w2 => e = .returned (.int .i64 (lenR fs ids)) ∧ Grw w' w2) := fun w' hw => lengthOf_grw w' (h.grow hw.below) (hr.grow hw.below) hi hl
  have HM : Hid (∀ w', Grw w w' → Calls Tryz.prog 25 #[.agg #[.slice A n c, .slice A' m d], .agg #[.int .i64 t, .slice Q jds.length eq]] w' fun e w2 => e = .returned (.int .i64 (lenR fs jds)) ∧ Grw w' w2) := fun w' hw => lengthOf_grw w' (h.grow hw.below) (hq.grow hw.below) hj hl
  have HC : Hid (∀ w', Grw w w' → Calls Tryz.prog 81 #[.slice R ids.length er, .slice Q jds.length eq] w' fun e w2 => e = .returned (.int .i64 (cmpL ids jds)) ∧ w' = w2) := fun w' hw => compareL_any w' (hr.grow hw.below).2 (hq.grow hw.below).2 hri
  clear hi hj hl h hr hq
  go_enter Tryz.func57, Tryz.ntmps57
  go_wp2_with fail
  have hG : Grw w (((w.alloc (.cells #[.slice A n c, .slice A' m d] 27)).alloc (.cells #[.int .i64 s, .slice R ids.length er] 32)).alloc (.cells #[.int .i64 t, .slice Q jds.length eq] 32)) := (((Grw.refl w).alloc _).alloc _).alloc _
  generalize (((w.alloc (.cells #[.slice A n c, .slice A' m d] 27)).alloc (.cells #[.int .i64 s, .slice R ids.length er] 32)).alloc (.cells #[.int .i64 t, .slice Q jds.length eq] 32)) = W0 at *
  have C0 : ∀ w', Grw W0 w' → w'.cell? ⟨w.heap.size, 0, none⟩ = some (.slice A n c) := fun _ h => h.below.cell (hS.cell 2 0 rfl rfl)
  have C1 : ∀ w', Grw W0 w' → w'.cell? ⟨w.heap.size, 1, none⟩ = some (.slice A' m d) := fun _ h => h.below.cell (hS.cell 2 1 rfl rfl)
  have C2 : ∀ w', Grw W0 w' → w'.cell? ⟨w.heap.size + 1, 0, none⟩ = some (.int .i64 s) := fun _ h => h.below.cell (hS.cell 1 0 rfl rfl)
  have C3 : ∀ w', Grw W0 w' → w'.cell? ⟨w.heap.size + 1, 1, none⟩ = some (.slice R ids.length er) := fun _ h => h.below.cell (hS.cell 1 1 rfl rfl)
  have C4 : ∀ w', Grw W0 w' → w'.cell? ⟨w.heap.size + 1 + 1, 0, none⟩ = some (.int .i64 t) := fun _ h => h.below.cell (hS.cell 0 0 rfl rfl)
  have C5 : ∀ w', Grw W0 w' → w'.cell? ⟨w.heap.size + 1 + 1, 1, none⟩ = some (.slice Q jds.length eq) := fun _ h => h.below.cell (hS.cell 0 1 rfl rfl)
  have HB : Hid (Grw w W0) := hG
  clear hS hG
  go_region_held3 (fun w' => Grw W0 w') (first | assumption | exact Grw.drew _ | exact Grw.trans (by assumption) (by assumption) | exact Grw.alloc (by assumption) _)
    (first
      | (go_at_call 25; with_reducible refine (HL.out _ (HB.out.trans (by assumption))).mono ?_; rintro e w' ⟨rfl, hb1⟩)
      | (go_at_call 25; with_reducible refine (HM.out _ (HB.out.trans (by assumption))).mono ?_; rintro e w' ⟨rfl, hb2⟩)
      | (go_at_call 81; refine (HC.out _ (HB.out.trans (by assumption))).mono ?_; rintro e w' ⟨rfl, rfl⟩)
      | (go_at_call 31; refine (compare_any _ _ _).mono ?_; rintro e w' ⟨rfl, rfl⟩)
      | (go_at_call 80; refine (or_any (x0 := cmpB (lenR fs ids) (lenR fs jds)) (x1 := cmpB (ids.length : Int) (jds.length : Int)) (x2 := cmpL ids jds) (x3 := cmpB s t) _ (by go_simp) (by go_simp) (by go_simp) (by go_simp)).mono ?_; rintro e w' ⟨rfl, rfl⟩))
  have hz := HB.out.trans (by assumption)
  go_wp2
  go_ret
  exact ⟨by rw [H.out]; rfl, hz⟩
set_option maxHeartbeats 1000000 in
set_option maxRecDepth 100000 in
/-- The closure that routesBetween sorts by. -/
theorem routesCmp_grw {gn : Nat} (w : World) (h : NetIs w A n c A' m d xs fs) (hg : ∀ i v, (#[Value.slice A n c, Value.slice A' m d] : Array Value)[i]? = some v → w.cell? ⟨gn, i, none⟩ = some v) (hr : RtIs w R ids.length er ids) (hq : RtIs w Q jds.length eq jds) (hl : ∀ f ∈ fs, 0 ≤ f.len ∧ f.len ≤ 5000) (hi : ∀ x ∈ ids, 0 ≤ x ∧ x < fs.length) (hj : ∀ x ∈ jds, 0 ≤ x ∧ x < fs.length) :
    Calls Tryz.prog 56 #[.agg #[.int .i64 s, .slice R ids.length er], .agg #[.int .i64 t, .slice Q jds.length eq], .pointer (some ⟨gn, 0, none⟩)] w fun e w' => e = .returned (.int .i64 (ordR fs s ids t jds)) ∧ Grw w w' := by
  have hG : Grw w ((w.alloc (.cells #[.int .i64 s, .slice R ids.length er] 32)).alloc (.cells #[.int .i64 t, .slice Q jds.length eq] 32)) := ((Grw.refl w).alloc _).alloc _
  have hS := ((Led.nil w).blk_ w.heap.size rfl 32 #[.int .i64 s, .slice R ids.length er]).blk_ (w.heap.size + 1) (by simp) 32 #[.int .i64 t, .slice Q jds.length eq]
  have p0 := hG.below.cell (hg 0 _ rfl)
  have p1 := hG.below.cell (hg 1 _ rfl)
  have HC := hid (compareRoutes_grw (s := s) (t := t) _ (h.grow hG.below) (hr.grow hG.below) (hq.grow hG.below) hl hi hj)
  have HG := hid hG
  clear hG hS hg h hr hq hl hi hj
  go_enter Tryz.func56, Tryz.ntmps56
  go_wp2_with fail
  refine HC.out.mono ?_
  rintro e w1 ⟨rfl, h1⟩
  go_wp2_with fail
  go_ret
  exact ⟨rfl, HG.out.trans h1⟩
end
end Go.Proofs.YtjfafhehpfjofaaGreat
/-
  DERIVED: THE SHELF's CONTRACTS AT THIS DUMP, IN PLAIN WORDS (tools/lay-plain.mjs out of 'TryzShelfR.lean', which tools/lay-shelf.mjs wrote): THE SAME DECLARATIONS UNDER THE SAME NAMES: 'import', 'namespace', 'open', 'def', 'theorem' AND NOTHING ELSE: no command of the shelf's: FOR A HAND-IN. Each laying: the table of numbers ('.._ren') and one theorem, a field a fact of the dump's own or the kernel's comparison; each contract: ONE APPLICATION.
-/
namespace Go.Proofs
open Go.Shelf
def Tryz.sortR_ren : Go.Shelf.Ren := ⟨fun | 6 => 55 | 15 => 68 | 14 => 79 | 28 => 92 | 29 => 93 | 20 => 98 | 21 => 99 | 22 => 100 | 23 => 101 | 24 => 102 | 25 => 103 | 26 => 104 | 27 => 105 | 46 => 112 | 47 => 107 | 48 => 108 | 49 => 113 | 50 => 114 | 57 => 116 | n => n, fun | 22 => 58 | 24 => 32 | 25 => 62 | 3 => 3 | 39 => 90 | 0 => 0 | 53 => 114 | 55 => 41 | 4 => 4 | 46 => 108 | 45 => 107 | 50 => 37 | 5 => 5 | 9 => 9 | 66 => 126 | 70 => 130 | 76 => 134 | 77 => 135 | n => n, fun | n => n⟩
theorem Tryz.sortR : Go.Proofs.SlLaysF0.n6 Tryz.prog Tryz.sortR_ren := {
  mixed := by kernel_rfl
  f6 := ⟨Tryz.f55.name, by decide, Tryz.func55.trans (congrArg some (by kernel_rfl))⟩
  f14 := ⟨Tryz.f79.name, by decide, Tryz.func79.trans (congrArg some (by kernel_rfl))⟩
  f15 := Tryz.func68.trans (congrArg some (by kernel_rfl))
  f20 := ⟨Tryz.f98.name, by decide, Tryz.func98.trans (congrArg some (by kernel_rfl))⟩
  f21 := ⟨Tryz.f99.name, by decide, Tryz.func99.trans (congrArg some (by kernel_rfl))⟩
  f22 := ⟨Tryz.f100.name, by decide, Tryz.func100.trans (congrArg some (by kernel_rfl))⟩
  f23 := ⟨Tryz.f101.name, by decide, Tryz.func101.trans (congrArg some (by kernel_rfl))⟩
  f24 := ⟨Tryz.f102.name, by decide, Tryz.func102.trans (congrArg some (by kernel_rfl))⟩
  f25 := ⟨Tryz.f103.name, by decide, Tryz.func103.trans (congrArg some (by kernel_rfl))⟩
  f26 := ⟨Tryz.f104.name, by decide, Tryz.func104.trans (congrArg some (by kernel_rfl))⟩
  f27 := ⟨Tryz.f105.name, by decide, Tryz.func105.trans (congrArg some (by kernel_rfl))⟩
  f28 := Tryz.func92.trans (congrArg some (by kernel_rfl))
  f29 := Tryz.func93.trans (congrArg some (by kernel_rfl))
  f46 := ⟨Tryz.f112.name, by decide, Tryz.func112.trans (congrArg some (by kernel_rfl))⟩
  f47 := Tryz.func107.trans (congrArg some (by kernel_rfl))
  f48 := Tryz.func108.trans (congrArg some (by kernel_rfl))
  f49 := ⟨Tryz.f113.name, by decide, Tryz.func113.trans (congrArg some (by kernel_rfl))⟩
  f50 := ⟨Tryz.f114.name, by decide, Tryz.func114.trans (congrArg some (by kernel_rfl))⟩
  f57 := ⟨Tryz.f116.name, by decide, Tryz.func116.trans (congrArg some (by kernel_rfl))⟩
  t0 := Tryz.underlying0
  a0 := Tryz.isAgg0
  z0 := Tryz.sizeOf0
  v0 := Tryz.zeroValue0
  t3 := Tryz.underlying3
  a3 := Tryz.isAgg3
  z3 := Tryz.sizeOf3
  v3 := Tryz.zeroValue3
  t4 := Tryz.underlying4
  a4 := Tryz.isAgg4
  z4 := Tryz.sizeOf4
  v4 := Tryz.zeroValue4
  t5 := Tryz.underlying5
  a5 := Tryz.isAgg5
  z5 := Tryz.sizeOf5
  v5 := Tryz.zeroValue5
  t9 := Tryz.underlying9
  a9 := Tryz.isAgg9
  z9 := Tryz.sizeOf9
  v9 := Tryz.zeroValue9
  t22 := Tryz.underlying58
  a22 := Tryz.isAgg58
  z22 := Tryz.sizeOf58
  v22 := Tryz.zeroValue58
  t25 := Tryz.underlying62
  a25 := Tryz.isAgg62
  z25 := Tryz.sizeOf62
  v25 := Tryz.zeroValue62
  t39 := Tryz.underlying90
  a39 := Tryz.isAgg90
  z39 := Tryz.sizeOf90
  v39 := Tryz.zeroValue90
  t45 := Tryz.underlying107
  a45 := Tryz.isAgg107
  z45 := Tryz.sizeOf107
  v45 := Tryz.zeroValue107
  t46 := Tryz.underlying108
  a46 := Tryz.isAgg108
  z46 := Tryz.sizeOf108
  v46 := Tryz.zeroValue108
  t50 := Tryz.underlying37
  a50 := Tryz.isAgg37
  z50 := Tryz.sizeOf37
  v50 := Tryz.zeroValue37
  t53 := Tryz.underlying114
  a53 := Tryz.isAgg114
  z53 := Tryz.sizeOf114
  v53 := Tryz.zeroValue114
  t55 := Tryz.underlying41
  a55 := Tryz.isAgg41
  z55 := Tryz.sizeOf41
  v55 := Tryz.zeroValue41
  t66 := Tryz.underlying126
  a66 := Tryz.isAgg126
  z66 := Tryz.sizeOf126
  v66 := Tryz.zeroValue126
  t70 := Tryz.underlying130
  a70 := Tryz.isAgg130
  z70 := Tryz.sizeOf130
  v70 := Tryz.zeroValue130
  t76 := Tryz.underlying134
  a76 := Tryz.isAgg134
  z76 := Tryz.sizeOf134
  v76 := Tryz.zeroValue134
  t77 := Tryz.underlying135
  a77 := Tryz.isAgg135
  z77 := Tryz.sizeOf135
  v77 := Tryz.zeroValue135 }
end Go.Proofs
/- slices.SortFunc of routes, by the library's contract, in the words of the ledger. Conditions: at most 1048576 fibers of a route; one start. -/
namespace Go.Proofs.YtjfafhehpfjofaaGreat
open Go.RowKit
theorem ordR_flip (fs : List Fib) (s : Int) (a b : List Int) : ordR fs s a s b = -ordR fs s b s a := by
  rw [ordR_eq, ordR_eq]
  have hf := cmpL_flip a b
  repeat' split
  all_goals omega
theorem ordR_same (fs : List Fib) (s : Int) (a : List Int) : ordR fs s a s a = 0 := by
  have := ordR_flip fs s a a
  omega
theorem leR_of_not {fs : List Fib} {s : Int} {a b : List Int} (h : ¬ ordR fs s b s a < 0) : leR fs s a b := by
  unfold leR
  have := ordR_flip fs s a b
  omega
/-- A route of the row that is sorted. -/
structure SRt (w : World) (base : Nat) (fs : List Fib) (blk : Nat) where
  sl : Sl
  ids : List Int
  own : Owns elInt w base 3 (slV sl) ids
  le : ids.length ≤ 1048576
  ok : ∀ x ∈ ids, 0 ≤ x ∧ x < fs.length
  far : ∀ g, (slV sl).ownBlock = some g → ¬ g = blk
section
variable {w : World} {base blk : Nat} {fs : List Fib} {s : Int}
def encS (s : Int) (x : SRt w base fs blk) : List Value := [.int .i64 s, slV x.sl]
def cfS (s : Int) (x y : SRt w base fs blk) : Int := ordR fs s x.ids s y.ids
theorem ltS (x y : SRt w base fs blk) : ltOf (cfS s) x y = true ↔ ¬ leR fs s y.ids x.ids := by
  unfold ltOf cfS leR
  rw [decide_eq_true_eq, ordR_flip fs s x.ids y.ids]
  omega
theorem ltS_f (x y : SRt w base fs blk) : ltOf (cfS s) x y = false ↔ leR fs s y.ids x.ids := by
  have := ltS (s := s) x y
  cases g : ltOf (cfS s) x y
  · rw [g] at this
    simp at this
    simpa using this
  · rw [g] at this
    simp at this
    simpa using this
theorem swoS : Go.Sort.SWO (ltOf (cfS (w := w) (base := base) (fs := fs) (blk := blk) s)) where
  irrefl x := by rw [ltS_f]; unfold leR; rw [ordR_same]; exact Int.le_refl _
  trans x y z h1 h2 := by
    rw [ltS] at *
    intro h
    exact h1 (leR_trans (leR_total h2) h)
  ntrans x y z h1 h2 := by
    rw [ltS_f] at *
    exact leR_trans h2 h1
end
section
variable {w : World} {base blk : Nat} {fs : List Fib} {s : Int} [Inhabited (SRt w base fs blk)]
theorem sort_touch (m : Nat) (dk : Array (SRt w base fs blk)) (os : Array Obj) : Touch (fun b => b = blk) w (sortWorldK (encS s) 2 w blk 0 m dk os) := by
  refine ⟨rfl, rfl, rfl, ?_, fun k hk hn => ?_⟩
  · simp [sortWorldK, Go.Sort.putRowK, Go.Sort.grow, Go.Sort.putRow, Go.Sort.mapBlock, Go.Sort.ahead]
  · have hk' : k < (w.heap.modify blk (Go.Sort.onCells (Go.Sort.putCells id 0 (Go.Sort.flatK (encS s) 2 dk)))).size := by simpa using hk
    show (w.heap.modify blk (Go.Sort.onCells (Go.Sort.putCells id 0 (Go.Sort.flatK (encS s) 2 dk))) ++ os)[k]? = _
    rw [Array.getElem?_append_left hk', Array.getElem?_modify, if_neg (fun e => hn e.symm)]
theorem sort_blk {T : TypeId} {cur : Array Value} (h : Blk w blk T cur) (m : Nat) (dk : Array (SRt w base fs blk)) (os : Array Obj) : ∃ cur', Blk (sortWorldK (encS s) 2 w blk 0 m dk os) blk T cur' ∧ cur'.size = cur.size ∧ ∀ k, k < dk.size → ∀ r, r < 2 → k * 2 + r < cur.size → cur'[k * 2 + r]? = some ((encS s dk[k]!)[r]!) := by
  refine ⟨Go.Sort.putCells id 0 (Go.Sort.flatK (encS s) 2 dk) cur, ?_, by simp [Go.Sort.putCells], fun k hk r hr hc => ?_⟩
  · unfold Blk at h ⊢
    have hb : blk < (w.heap.modify blk (Go.Sort.onCells (Go.Sort.putCells id 0 (Go.Sort.flatK (encS s) 2 dk)))).size := by
      have := (Array.getElem?_eq_some_iff.1 h).1
      simpa using this
    show (w.heap.modify blk (Go.Sort.onCells (Go.Sort.putCells id 0 (Go.Sort.flatK (encS s) 2 dk))) ++ os)[blk]? = _
    rw [Array.getElem?_append_left hb, Array.getElem?_modify, if_pos rfl, h]
    simp [Go.Sort.onCells]
  · unfold Go.Sort.putCells
    have hlt : k * 2 + r < dk.size * 2 := by omega
    rw [Array.getElem?_mapIdx, Array.getElem?_eq_getElem hc, Option.map_some, if_pos ⟨Nat.zero_le _, by rw [Go.Sort.size_flatK]; omega⟩, Nat.sub_zero, Go.Sort.get_flatK _ _ _ _ hlt]
    rw [show (k * 2 + r) / 2 = k by omega, show (k * 2 + r) % 2 = r by omega]
    rfl
end
section
variable {w0 w : World} {L : List Thing} {base n c nn cc m d gn : Nat} {A B B' : Option Addr} {ss : List (Int × Sl)} {rows : List (Int × List Int)} {xs : List ByteArray} {fs : List Fib} {s : Int}
theorem SRt.rtIs {g : Nat} {W : World} (x : SRt w base fs g) (ht : Touch (fun b => b = g) w W) : RtIs W x.sl.A x.ids.length x.sl.c x.ids ∧ x.sl.n = x.ids.length := by
  have ho : Owns elInt W base 3 (slV x.sl) x.ids := x.own.touch ht (fun g' hg' e => x.far g' hg' e)
  obtain ⟨A', c', hv, hc, _, hs⟩ := ho.form
  unfold slV at hv
  injection hv with e1 e2 e3
  refine ⟨⟨⟨by rw [e3]; exact hc, x.le⟩, ?_⟩, e2⟩
  rw [e1]
  exact hs
set_option maxHeartbeats 1000000 in
set_option maxRecDepth 100000 in
theorem sortRoutes_led (h : Led w0 w L) (i : Nat) (hi : L[i]? = some (tRS base (.slice A n c) ss rows)) (hbx : Blk w gn 27 #[.slice B nn cc, .slice B' m d]) (hgx : ∀ g, (Value.slice A n c).ownBlock = some g → gn ≠ g) (hn : NetIs w0 B nn cc B' m d xs fs) (hl : ∀ f ∈ fs, 0 ≤ f.len ∧ f.len ≤ 5000)
    (hr : ∀ r ∈ rows, r.1 = s ∧ r.2.length ≤ 1048576 ∧ ∀ x ∈ r.2, 0 ≤ x ∧ x < fs.length) (hnn : n ≤ 1099511627776) :
    Calls Tryz.prog 55 #[.slice A n c, .func (.func 56) #[] #[.pointer (some ⟨gn, 0, none⟩)]] w fun e w' => e = .returned (.tuple #[]) ∧
      ∃ ss' rows', rows'.Perm rows ∧ rows'.Pairwise (fun a b => leR fs s a.2 b.2) ∧ Led w0 w' (L.set i (tRS base (.slice A n c) ss' rows')) := by
  have hsn := rs_n h i hi
  have hrl := rs_rows h i hi
  have hO : OwnsRS w base (.slice A n c) ss rows := h.get i hi
  have hset : L.set i (tRS base (.slice A n c) ss rows) = L := by
    obtain ⟨hl2, he⟩ := List.getElem?_eq_some_iff.1 hi
    rw [← he]; exact List.set_getElem_self hl2
  rcases Nat.eq_zero_or_pos n with h0 | hpos
  · subst h0
    have hr0 : rows = [] := List.eq_nil_of_length_eq_zero hrl
    have hz := AnyF.slices_SortFunc_none Tryz.sortR A c (.func (.func 56) #[] #[.pointer (some ⟨gn, 0, none⟩)]) w
    refine Calls.mono hz ?_
    rintro e w' ⟨rfl, rfl⟩
    refine ⟨rfl, ss, rows, List.Perm.refl _, by rw [hr0]; exact List.Pairwise.nil, ?_⟩
    rw [hset]; exact h
  · rcases hO.1.cases with ⟨_, h0⟩ | ⟨g, c1, cur, hv, hbase, hblk, hnc, hcm, hcs, hfl⟩
    · rw [h0] at hsn; simp at hsn; omega
    · rw [hsn] at hv hnc hfl
      injection hv with e1 e2 e3
      subst e1
      subst e3
      have key : ∀ k : Nat, k < n → ∃ x : SRt w base fs g, ss[k]? = some (s, x.sl) ∧ rows[k]? = some (s, x.ids) := by
        intro k hk
        obtain ⟨r, hrk⟩ := get_of (k := k) hrl hk
        obtain ⟨t, htk⟩ := get_of (k := k) hsn hk
        obtain ⟨h1, h2⟩ := hO.2.2.1 k t r htk hrk
        obtain ⟨h3, h4, h5⟩ := hr r (List.mem_of_getElem? hrk)
        refine ⟨⟨t.2, r.2, h2, h4, h5, fun g' hg' e => ?_⟩, ?_, ?_⟩
        · exact owns_ne h2 hO.1 (by decide) g rfl (by rw [← e]; exact hg')
        · rw [htk, ← h3, ← h1]
        · rw [hrk, ← h3]
      obtain ⟨x0, _, _⟩ := key 0 hpos
      letI : Inhabited (SRt w base fs g) := ⟨x0⟩
      obtain ⟨f, hf⟩ := Go.Deep.choose_lt key
      obtain ⟨D, hD⟩ : ∃ D : Array (SRt w base fs g), D = ((List.range n).map f).toArray := ⟨_, rfl⟩
      have hDs : D.size = n := by rw [hD]; simp
      have hDl : D.toList = (List.range n).map f := by rw [hD]
      have hss : ss = D.toList.map fun x => (s, x.sl) := by
        refine List.ext_getElem? fun k => ?_
        rw [hDl, List.map_map, List.getElem?_map]
        rcases Nat.lt_or_ge k n with hk | hk
        · rw [List.getElem?_range hk, (hf k hk).1]; rfl
        · rw [List.getElem?_eq_none (by omega), List.getElem?_eq_none (by simp; omega)]; rfl
      have hrw : rows = D.toList.map fun x => (s, x.ids) := by
        refine List.ext_getElem? fun k => ?_
        rw [hDl, List.map_map, List.getElem?_map]
        rcases Nat.lt_or_ge k n with hk | hk
        · rw [List.getElem?_range hk, (hf k hk).2]; rfl
        · rw [List.getElem?_eq_none (by omega), List.getElem?_eq_none (by simp; omega)]; rfl
      have hH : Go.Sort.HoldsK (encS s) 2 w g 0 D := by
        intro t ht
        rw [Go.Sort.size_flatK] at ht
        refine ⟨?_, by rw [Nat.zero_add]; exact hblk.frozen t⟩
        rw [Nat.zero_add, Go.Sort.get_flatK _ _ _ _ ht]
        have hk : t / 2 < n := by omega
        have h1 := hfl (t / 2) _ hk (by rw [(hf (t / 2) hk).1])
        have hDk : D[t / 2]! = f (t / 2) := by rw [hD]; simp [hk]
        rw [hDk, hblk.cell]
        have h2 := h1 (t % 2)
        rcases Nat.lt_or_ge (t % 2) 1 with h3 | h3
        · have h4 : t % 2 = 0 := by omega
          have h5 := h2 (.int .i64 s) (by rw [h4]; rfl)
          rw [show t / 2 * elRt.sz + t % 2 = t by show t / 2 * 2 + t % 2 = t; omega] at h5
          rw [h5, h4]; rfl
        · have h4 : t % 2 = 1 := by omega
          have h5 := h2 (slV (f (t / 2)).sl) (by rw [h4]; rfl)
          rw [show t / 2 * elRt.sz + t % 2 = t by show t / 2 * 2 + t % 2 = t; omega] at h5
          rw [h5, h4]; rfl
      have hgn : gn ≠ g := hgx g rfl
      have hC : CmpLays Tryz.prog 56 #[.pointer (some ⟨gn, 0, none⟩)] (encS s) 2 (cfS (w := w) (base := base) (fs := fs) (blk := g) s) g 0 D.size w := by
        intro q os dk _ x y
        have ht := sort_touch (s := s) (blk := g) (w := w) q dk os
        obtain ⟨hx, hxn⟩ := x.rtIs ht
        obtain ⟨hy, hyn⟩ := y.rtIs ht
        have hbl : Below w0.heap.size w0 (sortWorldK (encS s) 2 w g 0 q dk os) := h.bl.trans (ht.below (B := w0.heap.size) (fun b e => by rw [e]; exact (h.all i _ hi).2 g (.inl rfl)) h.bl.size)
        have hbx2 := hbx.touch ht hgn
        have hc := routesCmp_grw (gn := gn) (s := s) (t := s) _ (hn.grow hbl) (fun i v hv => by rw [hbx2.cell]; exact hv) hx hy hl x.ok y.ok
        have e1 : (encS s x).toArray = #[.int .i64 s, .slice x.sl.A x.ids.length x.sl.c] := by unfold encS slV; rw [hxn]
        have e2 : (encS s y).toArray = #[.int .i64 s, .slice y.sl.A y.ids.length y.sl.c] := by unfold encS slV; rw [hyn]
        rw [e1, e2]
        exact hc
      have hcall := AnyQ.slices_SortFunc Tryz.sortR 2 Tryz.isAgg32 Tryz.sizeOf32 (encS s) (fun _ => rfl) (fun x v hv => by simp [encS] at hv; rcases hv with rfl | rfl <;> rfl) (cfS (w := w) (base := base) (fs := fs) (blk := g) s) swoS 56 #[.pointer (some ⟨gn, 0, none⟩)] g 0 c D w (fun _ _ => by rfl) hC hH hblk.lt (by omega)
      rw [hDs] at hcall
      refine Calls.mono hcall ?_
      rintro e w' ⟨rfl, d', q, os, hp, hsrt, rfl⟩
      have hsz : d'.size = n := by rw [hp.1, hDs]
      have hperm : d'.toList.Perm D.toList := by
        have h1 := hp.2.2
        rw [← hsz] at h1
        have h2 : d'.extract 0 d'.size = d' := by simp
        have h3 : D.extract 0 d'.size = D := by rw [hsz, ← hDs]; simp
        rw [h2, h3] at h1
        exact h1
      have hget : ∀ k, k < n → ∃ x : SRt w base fs g, d'.toList[k]? = some x ∧ d'[k]! = x ∧ x ∈ D.toList := by
        intro k hk
        have hk2 : k < d'.size := by omega
        refine ⟨d'[k], by simp [hk2], by simp [hk2], hperm.mem_iff.1 (by simp)⟩
      have ht := sort_touch (s := s) (blk := g) (w := w) q d' os
      obtain ⟨cur', hblk', hcs', hcur⟩ := sort_blk (s := s) hblk q d' os
      have hdl : d'.toList.length = n := by simp [hsz]
      refine ⟨rfl, d'.toList.map fun x => (s, x.sl), d'.toList.map fun x => (s, x.ids), ?_, ?_, ?_⟩
      · rw [hrw]; exact hperm.map _
      · rw [List.pairwise_map, List.pairwise_iff_getElem]
        intro a b ha hb hab
        have ha' : a < n := by omega
        have hb' : b < n := by omega
        have h1 := hsrt a b (Nat.zero_le _) hab hb'
        rw [ltS_f] at h1
        have e1 : d'[a]! = d'.toList[a] := by simp [hsz, ha']
        have e2 : d'[b]! = d'.toList[b] := by simp [hsz, hb']
        rw [e1, e2] at h1
        exact h1
      · have hS : rsS (.slice (some ⟨g, 0, none⟩) n c) (d'.toList.map fun x => (s, x.sl)) = rsS (.slice (some ⟨g, 0, none⟩) n c) ss := by
          funext b
          apply propext
          have hm : ∀ t : Int × Sl, t ∈ (d'.toList.map fun x => (s, x.sl)) ↔ t ∈ ss := fun t => by rw [hss]; exact (hperm.map _).mem_iff
          unfold rsS
          constructor
          · rintro (e | ⟨i, t, hti, e⟩)
            · exact .inl e
            · obtain ⟨i', hi'⟩ := List.getElem?_of_mem ((hm t).1 (List.mem_of_getElem? hti))
              exact .inr ⟨i', t, hi', e⟩
          · rintro (e | ⟨i, t, hti, e⟩)
            · exact .inl e
            · obtain ⟨i', hi'⟩ := List.getElem?_of_mem ((hm t).2 (List.mem_of_getElem? hti))
              exact .inr ⟨i', t, hi', e⟩
        refine h.touch i hi hS (ht.mono fun b hb => .inl (by rw [hb]; rfl)) ?_
        refine ⟨?_, by simp, fun k t r h1 h2 => ?_, fun a b t t' g' hab h1 h2 h3 h4 => ?_⟩
        · refine Owns.of_blk hblk' hbase (by rw [List.length_map, hdl]) hnc (by rw [hcs', hcs]) hcm (fun k t hk htk i u hu => ?_)
          obtain ⟨x, hx1, hx2, _⟩ := hget k hk
          rw [List.getElem?_map, hx1] at htk
          injection htk with htk
          subst htk
          have hi2 : i < 2 := by have := (List.getElem?_eq_some_iff.1 hu).1; rw [elRt.len] at this; exact this
          have hcc : cur.size = c * 2 := hcs
          have h3 := hcur k (by omega) i hi2 (by omega)
          rw [hx2] at h3
          show cur'[k * 2 + i]? = some u
          rw [h3]
          have hu' : (encS s x)[i]? = some u := hu
          congr 1
          rw [List.getElem!_eq_getElem?_getD, hu']
          rfl
        · have hk : k < n := by have := (List.getElem?_eq_some_iff.1 h1).1; rw [List.length_map, hdl] at this; exact this
          obtain ⟨x, hx1, _, _⟩ := hget k hk
          rw [List.getElem?_map, hx1] at h1 h2
          injection h1 with h1
          injection h2 with h2
          subst h1
          subst h2
          exact ⟨rfl, x.own.touch ht (fun g' hg' e => x.far g' hg' e)⟩
        · have hP : D.toList.Pairwise fun x y => ∀ g', (slV x.sl).ownBlock = some g' → ¬ (slV y.sl).ownBlock = some g' := by
            rw [List.pairwise_iff_getElem]
            intro a b ha hb hab g' e1 e2
            have ea : ss[a]? = some (s, D.toList[a].sl) := by rw [hss, List.getElem?_map, List.getElem?_eq_getElem ha]; rfl
            have eb : ss[b]? = some (s, D.toList[b].sl) := by rw [hss, List.getElem?_map, List.getElem?_eq_getElem hb]; rfl
            exact hO.2.2.2 a b _ _ g' hab ea eb e1 e2
          have hP2 := hP.perm hperm.symm (fun {x y} hxy g' e1 e2 => hxy g' e2 e1)
          rw [List.pairwise_iff_getElem] at hP2
          rw [List.getElem?_map] at h1 h2
          obtain ⟨x, hx1, hx2⟩ := Option.map_eq_some_iff.1 h1
          obtain ⟨y, hy1, hy2⟩ := Option.map_eq_some_iff.1 h2
          subst hx2
          subst hy2
          obtain ⟨ha, ea⟩ := List.getElem?_eq_some_iff.1 hx1
          obtain ⟨hb, eb⟩ := List.getElem?_eq_some_iff.1 hy1
          have := hP2 a b ha hb hab g'
          rw [ea, eb] at this
          exact this h3 h4
end
end Go.Proofs.YtjfafhehpfjofaaGreat
/- Routes put one after another each at its place: a sorted list, in plain Lean. Conditions: none. -/
namespace Go.Proofs.YtjfafhehpfjofaaGreat
open Go.RowKit
section
variable {fs : List Fib} {s : Int}
/-- The place of a route among the first k. -/
def plcR (fs : List Fib) (s : Int) (l : List (List Int)) (r : List Int) : Nat → Nat
  | 0 => 0
  | k + 1 => if ordR fs s r s (l.getD k []) < 0 then plcR fs s l r k else k + 1
def insR (fs : List Fib) (s : Int) (l : List (List Int)) (r : List Int) : List (List Int) := putAt l (plcR fs s l r l.length) r
theorem plcR_le (l : List (List Int)) (r : List Int) : ∀ k, plcR fs s l r k ≤ k := by
  intro k
  induction k with
  | zero => exact Nat.le_refl _
  | succ k ih =>
    rw [plcR]
    split
    · omega
    · exact Nat.le_refl _
theorem plcR_back (l : List (List Int)) (r : List Int) : ∀ k j e, k ≤ l.length → plcR fs s l r k ≤ j → j < k → l[j]? = some e → leR fs s r e := by
  intro k
  induction k with
  | zero => intro j e _ _ h; omega
  | succ k ih =>
    intro j e hk hj hjk he
    rw [plcR] at hj
    split at hj
    · rename_i hlt
      rcases Nat.lt_or_ge j k with h | h
      · exact ih j e (by omega) hj h he
      · have : j = k := by omega
        subst this
        have hd : l.getD j [] = e := by rw [List.getD_eq_getElem?_getD, he]; rfl
        rw [hd] at hlt
        unfold leR; omega
    · omega
theorem plcR_front (l : List (List Int)) (r : List Int) : ∀ k, k ≤ l.length → plcR fs s l r k = 0 ∨ ∃ e, l[plcR fs s l r k - 1]? = some e ∧ leR fs s e r := by
  intro k
  induction k with
  | zero => intro _; exact .inl rfl
  | succ k ih =>
    intro hk
    rw [plcR]
    split
    · exact ih (by omega)
    · rename_i hlt
      have hkl : k < l.length := hk
      refine .inr ⟨l[k], by simp [hkl], ?_⟩
      have hd : l.getD k [] = l[k] := by rw [List.getD_eq_getElem?_getD, List.getElem?_eq_getElem hkl]; rfl
      rw [hd] at hlt
      exact leR_of_not hlt
theorem insR_len (l : List (List Int)) (r : List Int) : (insR fs s l r).length = l.length + 1 := putAt_len _ _ _
theorem insR_perm (l : List (List Int)) (r : List Int) : (insR fs s l r).Perm (r :: l) := putAt_perm _ _ _
theorem insR_sorted (l : List (List Int)) (r : List Int) (h : l.Pairwise (leR fs s)) : (insR fs s l r).Pairwise (leR fs s) :=
  place_ok (fun _ _ _ => leR_trans) h (plcR_le l r _) (fun j e hj he => plcR_back l r l.length j e (Nat.le_refl _) hj (List.getElem?_eq_some_iff.1 he).1 he) (plcR_front l r l.length (Nat.le_refl _))
/-- All routes, sorted. -/
def srtR (fs : List Fib) (s : Int) (D : List (List Int)) : List (List Int) := D.foldl (insR fs s) []
theorem srtR_ok (D : List (List Int)) : (srtR fs s D).Pairwise (leR fs s) ∧ (srtR fs s D).Perm D := by
  have h := fold_put (le := leR fs s) (ins := insR fs s) insR_perm insR_sorted D [] List.Pairwise.nil
  rw [List.append_nil] at h
  exact h
/-- Whoever sorted them. -/
theorem srtR_one {D l : List (List Int)} (h1 : l.Pairwise (leR fs s)) (h2 : l.Perm D) : l = srtR fs s D :=
  sorted_one (fun _ _ => leR_anti) h1 (srtR_ok D).1 (h2.trans (srtR_ok D).2.symm)
theorem srtR_rows {D : List (List Int)} {rows : List (Int × List Int)} (h1 : rows.Pairwise (fun a b => leR fs s a.2 b.2)) (h2 : rows.Perm (D.map fun r => (s, r))) : rows = (srtR fs s D).map fun r => (s, r) := by
  have h3 : rows.map (·.2) = srtR fs s D := by
    refine srtR_one ?_ ?_
    · rw [List.pairwise_map]; exact h1
    · have := h2.map (·.2)
      rw [List.map_map] at this
      have e : ((fun x : Int × List Int => x.2) ∘ fun r : List Int => (s, r)) = id := rfl
      rw [e, List.map_id] at this
      exact this
  have h4 : ∀ a ∈ rows, a.1 = s := fun a ha => by
    obtain ⟨r, _, rfl⟩ := List.mem_map.1 (h2.mem_iff.1 ha)
    rfl
  rw [← h3, List.map_map]
  have : rows.map ((fun r : List Int => (s, r)) ∘ fun x : Int × List Int => x.2) = rows.map id := by
    refine List.map_congr_left fun a ha => ?_
    show (s, a.2) = a
    rw [← h4 a ha]
  rw [this, List.map_id]
end
end Go.Proofs.YtjfafhehpfjofaaGreat
/- l4Search.put of the reference, walked. Conditions: none. By put.py. -/
namespace Go.Proofs.YtjfafhehpfjofaaGreat
open Go.RowKit
/-- Three things as one. -/
theorem Led.fuse3 {w0 w : World} {a b c t : Thing} {R : List Thing} (h : Led w0 w (a :: b :: c :: R)) (hS : ∀ k, t.S k → a.S k ∨ b.S k ∨ c.S k) (his : t.is w) : Led w0 w (t :: R) := by
  refine ⟨h.bl, fun i u hu => ?_, fun i j u v hij hu hv k h1 h2 => ?_⟩
  · match i, hu with
    | 0, hu =>
      injection hu with hu; subst hu
      refine ⟨his, fun k hk => ?_⟩
      rcases hS k hk with e | e | e
      · exact (h.all 0 a rfl).2 k e
      · exact (h.all 1 b rfl).2 k e
      · exact (h.all 2 c rfl).2 k e
    | i + 1, hu => exact h.all (i + 3) u (by simpa using hu)
  · have key : ∀ (i : Nat) u, R[i]? = some u → ∀ k, t.S k → ¬ u.S k := fun i u hu k hk h2 => by
      rcases hS k hk with e | e | e
      · exact h.apart 0 (i + 3) a u (by omega) rfl (by simpa using hu) k e h2
      · exact h.apart 1 (i + 3) b u (by omega) rfl (by simpa using hu) k e h2
      · exact h.apart 2 (i + 3) c u (by omega) rfl (by simpa using hu) k e h2
    match i, j, hu, hv with
    | 0, 0, hu, hv => exact hij rfl
    | 0, j + 1, hu, hv =>
      injection hu with hu; subst hu
      exact key j v (by simpa using hv) k h1 h2
    | i + 1, 0, hu, hv =>
      injection hv with hv; subst hv
      exact key i u (by simpa using hu) k h2 h1
    | i + 1, j + 1, hu, hv => exact h.apart (i + 3) (j + 3) u v (by omega) (by simpa using hu) (by simpa using hv) k h1 h2
theorem Led.front {w0 w : World} {P R : List Thing} (h : Led w0 w (P ++ R)) (is : List Nat) (hn : is.Nodup) (he : is.all (fun i => decide (i < P.length)) = true) : Led w0 w ((is.filterMap fun i => P[i]?) ++ R) := by
  have hm : is.map (fun i => P[i]?) = (is.filterMap fun i => P[i]?).map some := by
    clear hn
    induction is with
    | nil => rfl
    | cons x is ih =>
      rw [List.all_cons, Bool.and_eq_true, decide_eq_true_eq] at he
      rw [List.map_cons, List.filterMap_cons, List.getElem?_eq_getElem he.1, ih he.2]
      rfl
  have hlen : (is.filterMap fun i => P[i]?).length = is.length := by have := congrArg List.length hm; simp at this; omega
  have hlt : ∀ i, i < is.length → is.getD i 0 < P.length := fun i hi => by
    have := List.all_eq_true.1 he (is.getD i 0) (by rw [List.getD_eq_getElem?_getD, List.getElem?_eq_getElem hi]; exact List.getElem_mem hi)
    exact of_decide_eq_true this
  refine h.reidx (fun i => if i < is.length then is.getD i 0 else i - is.length + P.length) (fun i j hij => ?_) (fun i t hi => ?_)
  · show (if i < is.length then is.getD i 0 else i - is.length + P.length) ≠ (if j < is.length then is.getD j 0 else j - is.length + P.length)
    split
    · rename_i h1
      split
      · rename_i h2
        intro e
        rw [List.getD_eq_getElem?_getD, List.getD_eq_getElem?_getD, List.getElem?_eq_getElem h1, List.getElem?_eq_getElem h2] at e
        have e2 : is[i] = is[j] := e
        exact hij ((List.getElem?_inj h1 hn).1 (by rw [List.getElem?_eq_getElem h1, List.getElem?_eq_getElem h2, e2]))
      · have := hlt i h1; omega
    · split
      · rename_i h2
        have := hlt j h2; omega
      · omega
  · rcases Nat.lt_or_ge i is.length with h1 | h1
    · rw [if_pos h1, List.getElem?_append_left (hlt i h1)]
      rw [List.getElem?_append_left (by omega)] at hi
      have h2 : (is.map (fun i => P[i]?))[i]? = some (some t) := by rw [hm, List.getElem?_map, hi]; rfl
      rw [List.getElem?_map, List.getElem?_eq_getElem h1] at h2
      injection h2 with h2
      rw [List.getD_eq_getElem?_getD, List.getElem?_eq_getElem h1]
      exact h2
    · rw [if_neg (by omega), List.getElem?_append_right (by omega), show i - is.length + P.length - P.length = i - is.length by omega]
      rw [List.getElem?_append_right (by omega), hlen] at hi
      exact hi
theorem putAt_map {α β : Type} (f : α → β) (l : List α) (p : Nat) (r : α) : (putAt l p r).map f = putAt (l.map f) p (f r) := by
  unfold putAt
  rw [List.map_append, List.map_cons, List.map_take, List.map_drop]
theorem putAt_get {α : Type} {l : List α} {p i : Nat} {r x : α} (hp : p ≤ l.length) (h : (putAt l p r)[i]? = some x) : (i < p ∧ l[i]? = some x) ∨ (i = p ∧ x = r) ∨ (p < i ∧ l[i - 1]? = some x) := by
  unfold putAt at h
  have hl : (l.take p).length = p := by rw [List.length_take]; omega
  rcases Nat.lt_trichotomy i p with h1 | h1 | h1
  · rw [List.getElem?_append_left (by omega), List.getElem?_take, if_pos h1] at h
    exact .inl ⟨h1, h⟩
  · rw [List.getElem?_append_right (by omega), hl, h1, Nat.sub_self] at h
    simp at h
    exact .inr (.inl ⟨h1, h.symm⟩)
  · rw [List.getElem?_append_right (by omega), hl] at h
    obtain ⟨d, hd⟩ : ∃ d, i - p = d + 1 := ⟨i - p - 1, by omega⟩
    rw [hd, List.getElem?_cons_succ, List.getElem?_drop] at h
    exact .inr (.inr ⟨h1, by rw [show i - 1 = p + d by omega]; exact h⟩)
/-- A new row that holds the old routes and one more. -/
theorem Led.relist {w0 w : World} {base b b2 : Nat} {V V2 : Value} {ss : List (Int × Sl)} {rows : List (Int × List Int)} {s0 : Int × Sl} {r0 : Int × List Int} {p : Nat} {R : List Thing} (h : Led w0 w (tOwns elRt b2 32 V2 (putAt ss p s0) :: tOwns elInt b 3 (slV s0.2) r0.2 :: tRS base V ss rows :: R)) (hp : p ≤ ss.length) (h0 : s0.1 = r0.1) (hb : base ≤ b) (hb2 : base ≤ b2) :
    Led w0 w (tRS base V2 (putAt ss p s0) (putAt rows p r0) :: R) := by
  have hO : OwnsRS w base V ss rows := h.get 2 rfl
  have hN : Owns elRt w b2 32 V2 (putAt ss p s0) := h.get 0 rfl
  have hR : Owns elInt w b 3 (slV s0.2) r0.2 := h.get 1 rfl
  have ap : ∀ (i : Nat) s g, ss[i]? = some s → (slV s.2).ownBlock = some g → ¬ (slV s0.2).ownBlock = some g := fun i s g hs hg e => h.apart 2 1 _ _ (by decide) rfl rfl g (.inr ⟨i, s, hs, hg⟩) e
  refine h.fuse3 (fun k hk => ?_) ⟨hN.base hb2, by rw [putAt_len, putAt_len, hO.2.1], fun i s r h1 h2 => ?_, fun i j s t g hij h1 h2 h3 h4 => ?_⟩
  · rcases hk with hk | ⟨i, s, hs, hk⟩
    · exact .inl hk
    · rcases putAt_get hp hs with ⟨_, e⟩ | ⟨_, e⟩ | ⟨_, e⟩
      · exact .inr (.inr (.inr ⟨i, s, e, hk⟩))
      · subst e; exact .inr (.inl hk)
      · exact .inr (.inr (.inr ⟨i - 1, s, e, hk⟩))
  · have hp2 : p ≤ rows.length := by rw [← hO.2.1]; exact hp
    rcases putAt_get hp h1 with ⟨a1, e⟩ | ⟨a1, e⟩ | ⟨a1, e⟩
    · rcases putAt_get hp2 h2 with ⟨_, e2⟩ | ⟨a2, _⟩ | ⟨a2, _⟩
      · exact hO.2.2.1 i s r e e2
      · omega
      · omega
    · rcases putAt_get hp2 h2 with ⟨a2, _⟩ | ⟨_, e2⟩ | ⟨a2, _⟩
      · omega
      · subst e; subst e2; exact ⟨h0, hR.base hb⟩
      · omega
    · rcases putAt_get hp2 h2 with ⟨a2, _⟩ | ⟨a2, _⟩ | ⟨_, e2⟩
      · omega
      · omega
      · exact hO.2.2.1 (i - 1) s r e e2
  · rcases putAt_get hp h1 with ⟨a1, e⟩ | ⟨a1, e⟩ | ⟨a1, e⟩
    · rcases putAt_get hp h2 with ⟨a2, e2⟩ | ⟨a2, e2⟩ | ⟨a2, e2⟩
      · exact hO.2.2.2 i j s t g hij e e2 h3 h4
      · subst e2; exact ap i s g e h3 h4
      · exact hO.2.2.2 i (j - 1) s t g (by omega) e e2 h3 h4
    · rcases putAt_get hp h2 with ⟨a2, e2⟩ | ⟨a2, e2⟩ | ⟨a2, e2⟩
      · omega
      · omega
      · subst e; exact ap (j - 1) t g e2 h4 h3
    · rcases putAt_get hp h2 with ⟨a2, e2⟩ | ⟨a2, e2⟩ | ⟨a2, e2⟩
      · omega
      · omega
      · exact hO.2.2.2 (i - 1) (j - 1) s t g (by omega) e e2 h3 h4
theorem Led.seesRS {w0 w : World} {L : List Thing} {base n c : Nat} {A : Option Addr} {ss : List (Int × Sl)} {rows : List (Int × List Int)} (h : Led w0 w L) (i : Nat) (hi : L[i]? = some (tRS base (.slice A n c) ss rows)) : Sees elRt w w.heap.size A n ss := by
  have h1 : OwnsRS w base _ ss rows := h.get i hi
  have h2 := h1.sees.1
  rw [rs_n h i hi] at h2
  exact h2
theorem Sees.backR {α : Type} {E : El α} {w : World} {B b o n k : Nat} {l : List α} (h : Sees E w B (some ⟨b, o, none⟩) n l) (hk : k ≤ n) : Sees E w B (some ⟨b, o + k * E.sz, none⟩) (n - k) (l.drop k) := by
  refine ⟨by rw [List.length_drop, h.1], ?_⟩
  rcases h.2 with h0 | ⟨b', o', e, hb, hc⟩
  · exact .inl (by omega)
  · injection e with e
    injection e with e1 e2
    subst e1 e2
    refine .inr ⟨b, _, rfl, hb, fun j x hx i u hu => ?_⟩
    rw [List.getElem?_drop] at hx
    have h1 := hc (k + j) x hx i u hu
    have e : o + (k + j) * E.sz + i = o + k * E.sz + j * E.sz + i := by rw [Nat.add_mul]; omega
    rw [← e]; exact h1
theorem Sees.backZ {α : Type} {E : El α} {w : World} {B n k : Nat} {A A2 : Option Addr} {l : List α} (h : Sees E w B A n l) (hk : n - k = 0) : Sees E w B A2 0 (l.drop k) :=
  ⟨by rw [List.length_drop, h.1, hk], .inl rfl⟩
theorem sees_rt {w : World} {g : Nat} {s : Int} {B : Option Addr} {k e : Nat} (h : Blk w g 32 #[.int .i64 s, .slice B k e]) : Sees elRt w w.heap.size (some ⟨g, 0, none⟩) 1 [(s, (⟨B, k, e⟩ : Sl))] := by
  refine ⟨rfl, .inr ⟨g, 0, rfl, h.lt, fun j y hy i u hu => ?_⟩⟩
  have hj : j = 0 := by have := (List.getElem?_eq_some_iff.1 hy).1; simp at this; omega
  subst hj
  simp at hy; subst hy
  have hu' : [Value.int .i64 s, .slice B k e][i]? = some u := hu
  show w.cell? ⟨g, 0 + 0 * 2 + i, none⟩ = some u
  rw [show 0 + 0 * 2 + i = i by omega, h.cell]
  simpa using hu'
section
variable {w0 : World} {n c m d gx : Nat} {A A' : Option Addr} {xs : List ByteArray} {fs : List Fib} {s to : Nat}
def srX (A : Option Addr) (n c : Nat) (A' : Option Addr) (m d to : Nat) (V : Value) : Array Value := #[.slice A n c, .slice A' m d, .int .i64 (to : Int), V]
/-- The boxes of put stand. -/
def ptS (w0 : World) (gx gr : Nat) (A : Option Addr) (n c : Nat) (A' : Option Addr) (m d to s : Nat) (V : Value) (B : Option Addr) (k e : Nat) (w' : World) : Prop := Led w0 w' [tBlk gr 32 #[.int .i64 (s : Int), .slice B k e], tBlk gx 0 (srX A n c A' m d to V)]
theorem ptS_of {w : World} {L : List Thing} {gr k e : Nat} {V : Value} {B : Option Addr} (h : Led w0 w L) (i j : Nat) (hi : L[i]? = some (tBlk gr 32 #[.int .i64 (s : Int), .slice B k e])) (hj : L[j]? = some (tBlk gx 0 (srX A n c A' m d to V))) (hij : i ≠ j) : ptS w0 gx gr A n c A' m d to s V B k e w :=
  h.reidx (fun q => if q = 0 then i else if q = 1 then j else q + i + j) (fun p q hpq => by
    show (if p = 0 then i else if p = 1 then j else p + i + j) ≠ (if q = 0 then i else if q = 1 then j else q + i + j)
    repeat' split
    all_goals omega) (fun q t hq => by
    match q, hq with
    | 0, hq => injection hq with hq; subst hq; exact hi
    | 1, hq => injection hq with hq; subst hq; exact hj
    | q + 2, hq => simp at hq)
theorem mem_ptS {w : World} {gr k e : Nat} {V : Value} {B : Option Addr} {x y : Thing} {R : List Thing} (h : Led w0 w (tBlk gr 32 #[.int .i64 (s : Int), .slice B k e] :: x :: y :: tBlk gx 0 (srX A n c A' m d to V) :: R)) : ptS w0 gx gr A n c A' m d to s V B k e w :=
  h.reidx (fun i => if i = 0 then 0 else i + 2) (fun i j hij => by
    show (if i = 0 then 0 else i + 2) ≠ (if j = 0 then 0 else j + 2)
    repeat' split
    all_goals omega) (fun i t hi => by
    match i, hi with
    | 0, hi => exact hi
    | 1, hi => exact hi
    | i + 2, hi => simp at hi)
end
end Go.Proofs.YtjfafhehpfjofaaGreat
/- l4Search.extend of the reference, walked. Conditions: none. By sext.py. -/
namespace Go.Proofs.YtjfafhehpfjofaaGreat
open Go.RowKit
/-- The reference's search, at most 200 and one. -/
def rfL (fs : List Fib) (s to k v : Nat) (seen : List Nat) (ids : List Int) (l : List (List Int)) : List (List Int) := refL fs.length to 200 (nxF fs) (insR fs (s : Int)) k v seen ids l
def rfF (fs : List Fib) (s to k v : Nat) (seen : List Nat) (ids : List Int) (l : List (List Int)) (i : Nat) : List (List Int) := if l.length ≤ 200 then (match nxF fs i v with
  | some u => if u ∈ seen then l else rfL fs s to k u (u :: seen) (ids ++ [(i : Int)]) l
  | none => l) else l
def rfJ (fs : List Fib) (s to k v : Nat) (seen : List Nat) (ids : List Int) (l : List (List Int)) (j : Nat) : List (List Int) := (List.range j).foldl (rfF fs s to k v seen ids) l
def okL (fs : List Fib) (n : Nat) (l : List (List Int)) : Prop := l.length ≤ 201 ∧ ∀ r ∈ l, r.length ≤ n ∧ ∀ x ∈ r, 0 ≤ x ∧ x < fs.length
def seenI (seen : List Nat) : List Int := seen.reverse.map fun u : Nat => (u : Int)
theorem seenI_len (seen : List Nat) : (seenI seen).length = seen.length := by unfold seenI; rw [List.length_map, List.length_reverse]
theorem seenI_cons (q : Nat) (seen : List Nat) : seenI (q :: seen) = seenI seen ++ [(q : Int)] := by unfold seenI; simp
theorem seenI_mem {q : Nat} {seen : List Nat} : (q : Int) ∈ seenI seen ↔ q ∈ seen := by
  unfold seenI
  rw [List.mem_map]
  constructor
  · rintro ⟨u, hu, e⟩
    have : u = q := by omega
    subst this
    exact List.mem_reverse.1 hu
  · exact fun h => ⟨q, List.mem_reverse.2 h, rfl⟩
theorem sees_in {w : World} {g : Nat} {x : Int} (h : Blk w g 3 #[.int .i64 x]) : Sees elInt w w.heap.size (some ⟨g, 0, none⟩) 1 [x] := by
  refine ⟨rfl, .inr ⟨g, 0, rfl, h.lt, fun j y hy i u hu => ?_⟩⟩
  have hj : j = 0 := by have := (List.getElem?_eq_some_iff.1 hy).1; simp at this; omega
  subst hj
  simp at hy; subst hy
  have hu' : [Value.int .i64 x][i]? = some u := hu
  show w.cell? ⟨g, 0 + 0 * 1 + i, none⟩ = some u
  rw [show 0 + 0 * 1 + i = i by omega, h.cell]
  simpa using hu'
section
variable {fs : List Fib} {s to k v : Nat} {seen : List Nat} {ids : List Int} {l : List (List Int)}
theorem rfL_end : rfL fs s to (k + 1) to seen ids l = insR fs (s : Int) l ids := by unfold rfL refL; rw [if_pos rfl]
theorem rfL_on (h : v ≠ to) : rfL fs s to (k + 1) v seen ids l = rfJ fs s to k v seen ids l fs.length := by
  unfold rfL rfJ
  rw [refL, if_neg h]
  rfl
theorem rfJ_succ (j : Nat) : rfJ fs s to k v seen ids l (j + 1) = rfF fs s to k v seen ids (rfJ fs s to k v seen ids l j) j := by
  unfold rfJ
  rw [List.range_succ, List.foldl_append]
  rfl
theorem rfF_none {i : Nat} (h : otherF (fibD fs i) (v : Int) < 0) : rfF fs s to k v seen ids l i = l := by
  unfold rfF; rw [nxF_none h]; split <;> rfl
theorem rfF_seen {i u : Nat} (h : otherF (fibD fs i) (v : Int) = (u : Int)) (hs : u ∈ seen) : rfF fs s to k v seen ids l i = l := by
  unfold rfF; rw [nxF_some h]; simp [hs]
theorem rfF_on {i u : Nat} (h : otherF (fibD fs i) (v : Int) = (u : Int)) (hs : ¬ u ∈ seen) (hl : l.length ≤ 200) : rfF fs s to k v seen ids l i = rfL fs s to k u (u :: seen) (ids ++ [(i : Int)]) l := by
  unfold rfF; rw [nxF_some h]; simp [hs, hl]
theorem rfF_stop {i : Nat} (hl : 200 < l.length) : rfF fs s to k v seen ids l i = l := by
  unfold rfF; rw [if_neg (by omega)]
theorem rfJ_stop {j m : Nat} (h : 200 < (rfJ fs s to k v seen ids l j).length) (hj : j ≤ m) : rfJ fs s to k v seen ids l m = rfJ fs s to k v seen ids l j := by
  obtain ⟨d, rfl⟩ := Nat.exists_eq_add_of_le hj
  clear hj
  induction d with
  | zero => rfl
  | succ d ih => rw [Nat.add_succ, rfJ_succ, rfF_stop (by rw [ih]; exact h), ih]
theorem insR_mem {D l : List (List Int)} : ∀ r ∈ D.foldl (insR fs (s : Int)) l, r ∈ D ∨ r ∈ l := by
  induction D generalizing l with
  | nil => exact fun r h => .inr h
  | cons x D ih =>
    intro r hr
    rcases ih r hr with h | h
    · exact .inl (List.mem_cons_of_mem _ h)
    · rcases List.mem_cons.1 ((insR_perm l x).mem_iff.1 h) with h | h
      · exact .inl (h ▸ List.mem_cons_self)
      · exact .inr h
theorem rfL_ok {n : Nat} (hl : okL fs n l) (h2 : l.length ≤ 200) (hi : ids.length + k ≤ n) (h3 : ∀ x ∈ ids, 0 ≤ x ∧ x < fs.length) : okL fs n (rfL fs s to k v seen ids l) := by
  unfold rfL
  rw [refL_eq (fun l r => insR_len l r) _ _ _ _ _ h2]
  refine ⟨?_, fun r hr => ?_⟩
  · rw [ins_foldl (fun l r => insR_len l r), List.length_take]; omega
  · rcases insR_mem r hr with h | h
    · obtain ⟨e, rfl, h5, h6⟩ := rtsL_mem (fs := fs) k v seen ids r (List.mem_of_mem_take h)
      refine ⟨by rw [List.length_append]; omega, fun x hx => ?_⟩
      rcases List.mem_append.1 hx with hx | hx
      · exact h3 x hx
      · exact h6 x hx
    · exact hl.2 r h
end
section
variable {w0 : World} {n c m d gx : Nat} {A A' : Option Addr} {xs : List ByteArray} {fs : List Fib} {s to : Nat}
/-- The box of the route stands. -/
def sxS (w0 : World) (gr s : Nat) (B : Option Addr) (k e : Nat) (w' : World) : Prop := Led w0 w' [tBlk gr 32 #[.int .i64 (s : Int), .slice B k e]]
theorem sxS_of {w : World} {L : List Thing} {gr k e : Nat} {B : Option Addr} (h : Led w0 w L) (i : Nat) (hi : L[i]? = some (tBlk gr 32 #[.int .i64 (s : Int), .slice B k e])) : sxS w0 gr s B k e w :=
  h.reidx (fun q => i + q) (fun p q hpq => by omega) (fun q t hq => by
    match q, hq with
    | 0, hq => injection hq with hq; subst hq; exact hi
    | q + 1, hq => simp at hq)
end
end Go.Proofs.YtjfafhehpfjofaaGreat
/- routesBetween, walked: all routes, sorted. Conditions: none. -/
namespace Go.Proofs.YtjfafhehpfjofaaGreat
open Go.RowKit
/-- All routes from s to another node. -/
def rbL (fs : List Fib) (n s to : Nat) : List (List Int) := if s = to then [] else rtsL fs to n s [s] []
theorem Led.emptyRS {w0 w : World} {L : List Thing} (h : Led w0 w L) (g : Nat) (hg : g = w.heap.size) (b0 : Nat) (h0 : b0 ≤ g) : Led w0 (w.alloc (.cells #[] 32)) (tRS b0 (.slice (some ⟨g, 0, none⟩) 0 0) [] [] :: L) := by
  subst hg
  have ho : Owns elRt (w.alloc (.cells #[] 32)) w.heap.size 32 (.slice (some ⟨w.heap.size, 0, none⟩) 0 0) [] := Owns.of_blk (n := 0) (cap := 0) (cur := #[]) (Blk.new w 32 #[]) (Nat.le_refl _) rfl (Nat.le_refl _) (by simp) (by decide) (Filled.zero _ _ _)
  have hO : OwnsRS (w.alloc (.cells #[] 32)) w.heap.size (.slice (some ⟨w.heap.size, 0, none⟩) 0 0) [] [] := ⟨ho, rfl, fun i s r h1 => by simp at h1, fun i j s t g _ h1 => by simp at h1⟩
  exact h.put (bl_alloc (Below.refl _ _) _) (tRS b0 _ [] []) (fun _ e => (hO.lies e).1) (hO.base_ h0)
section
variable {n c m d : Nat} {A A' : Option Addr} {xs : List ByteArray} {fs : List Fib}
theorem rbL_ok {s to : Nat} : ∀ r ∈ rbL fs n s to, r.length ≤ n ∧ ∀ x ∈ r, 0 ≤ x ∧ x < fs.length := by
  intro r hr
  unfold rbL at hr
  split at hr
  · cases hr
  · obtain ⟨e, he, h1, h2⟩ := rtsL_mem _ _ _ _ r hr
    rw [List.nil_append] at he
    subst he
    exact ⟨by omega, h2⟩
theorem rbL_len {s to : Nat} (hn : n ≤ 8) (hm : fs.length ≤ 14) : (rbL fs n s to).length ≤ 2562890625 := by
  unfold rbL
  split
  · exact Nat.zero_le _
  · refine Nat.le_trans (rtsL_len _ _ _ _) ?_
    have h1 : (fs.length + 1) ^ n ≤ 15 ^ n := Nat.pow_le_pow_left (by omega) _
    have h2 : 15 ^ n ≤ 15 ^ 8 := Nat.pow_le_pow_right (by decide) hn
    exact Nat.le_trans h1 (Nat.le_trans h2 (by decide))
set_option maxHeartbeats 4000000 in
set_option maxRecDepth 100000 in
theorem routesBetween_any (w : World) (h : NetIs w A n c A' m d xs fs) (g : goodB xs fs = true) (s to : Nat) (hs : s < n) (_ht : to < n) :
    Calls Tryz.prog 28 #[.agg #[.slice A n c, .slice A' m d], .int .i64 (s : Int), .int .i64 (to : Int)] w fun e w' => ∃ v ss rows, e = .returned v ∧ rows.Perm ((rbL fs n s to).map fun r => ((s : Int), r)) ∧ rows.Pairwise (fun a b => leR fs (s : Int) a.2 b.2) ∧ OwnsRS w' w.heap.size v ss rows ∧ Below w.heap.size w w' := by
  obtain ⟨he, hn0, hn8, hm14⟩ := good_parts h g
  obtain ⟨w0, hw0⟩ : ∃ w0, w0 = ((w.alloc (.cells #[.slice A n c, .slice A' m d] 27)).alloc (.cells #[.int .i64 (s : Int)] 3)).alloc (.cells #[.int .i64 (to : Int)] 3) := ⟨_, rfl⟩
  have hb0 : Below w.heap.size w w0 := by rw [hw0]; exact bl_alloc (bl_alloc (bl_alloc (Below.refl _ _) _) _) _
  have hsz : w0.heap.size = w.heap.size + 1 + 1 + 1 := by rw [hw0]; simp
  have kN : Blk w0 w.heap.size 27 #[.slice A n c, .slice A' m d] := by rw [hw0]; exact ((Blk.new w _ _).alloc _).alloc _
  have kF : Blk w0 (w.heap.size + 1) 3 #[.int .i64 (s : Int)] := by
    rw [hw0]
    have h1 : Blk ((w.alloc (.cells #[.slice A n c, .slice A' m d] 27)).alloc (.cells #[.int .i64 (s : Int)] 3)) (w.alloc (.cells #[.slice A n c, .slice A' m d] 27)).heap.size 3 #[.int .i64 (s : Int)] := Blk.new _ _ _
    have h2 := h1.alloc (.cells #[.int .i64 (to : Int)] 3)
    simpa using h2
  have kT : Blk w0 (w.heap.size + 1 + 1) 3 #[.int .i64 (to : Int)] := by
    rw [hw0]
    have h1 : Blk (((w.alloc (.cells #[.slice A n c, .slice A' m d] 27)).alloc (.cells #[.int .i64 (s : Int)] 3)).alloc (.cells #[.int .i64 (to : Int)] 3)) ((w.alloc (.cells #[.slice A n c, .slice A' m d] 27)).alloc (.cells #[.int .i64 (s : Int)] 3)).heap.size 3 #[.int .i64 (to : Int)] := Blk.new _ _ _
    simpa using h1
  have hn : NetIs w0 A n c A' m d xs fs := h.grow hb0
  have hL0 := (((Led.nil w0).emptyRS w0.heap.size rfl w0.heap.size (Nat.le_refl _)).blk_ (w0.heap.size + 1) (by simp) 58 #[.slice (some ⟨w0.heap.size, 0, none⟩) 0 0]).blk_ (w0.heap.size + 1 + 1) (by simp) 85 #[.func (.func 52) #[] (capE (w.heap.size + 1 + 1) (w0.heap.size + 1) (w.heap.size + 1) w.heap.size (w0.heap.size + 1 + 1))]
  have hL1 : Led w0 _ (exT w0.heap.size (.slice (some ⟨w0.heap.size, 0, none⟩) 0 0) [] [] (w.heap.size + 1 + 1) (w0.heap.size + 1) (w.heap.size + 1) w.heap.size (w0.heap.size + 1 + 1) w0.heap.size none 0 [] []) := (hL0.nilS elInt 3 w0.heap.size).pick [3, 2, 1, 0] (by decide) rfl
  clear hL0
  rw [hsz] at hL1
  have HL1 : Hid (Led w0 ((((((w.alloc (.cells #[.slice A n c, .slice A' m d] 27)).alloc (.cells #[.int .i64 (s : Int)] 3)).alloc (.cells #[.int .i64 (to : Int)] 3)).alloc (.cells #[] 32)).alloc (.cells #[.slice (some ⟨w.heap.size + 1 + 1 + 1, 0, none⟩) 0 0] 58)).alloc (.cells #[.func (.func 52) #[] #[.pointer (some ⟨w.heap.size + 1 + 1, 0, none⟩), .pointer (some ⟨w.heap.size + 1 + 1 + 1 + 1, 0, none⟩), .pointer (some ⟨w.heap.size + 1, 0, none⟩), .pointer (some ⟨w.heap.size, 0, none⟩), .pointer (some ⟨w.heap.size + 1 + 1 + 1 + 1 + 1, 0, none⟩)]] 85)) (exT w0.heap.size (.slice (some ⟨w.heap.size + 1 + 1 + 1, 0, none⟩) 0 0) [] [] (w.heap.size + 1 + 1) (w.heap.size + 1 + 1 + 1 + 1) (w.heap.size + 1) w.heap.size (w.heap.size + 1 + 1 + 1 + 1 + 1) w0.heap.size none 0 [] [])) := by
    have h1 := hL1
    rw [← hw0, hsz]
    exact h1
  have HN := hid hn
  have HKN := hid kN
  have HKF := hid kF
  have HKT := hid kT
  have HSZ := hid hsz
  have HB0 := hid hb0
  clear hL1 hn kN kF kT hsz hb0 hw0 h he
  by_cases hst : s = to
  · have hst1 : ((s : Int) != (to : Int)) = false := by rw [hst]; simp
    have HR : Hid (rbL fs n s to = []) := by unfold Hid rbL; rw [if_pos hst]
    clear hst
    go_enter Tryz.func28, Tryz.ntmps28
    have hl1 := HL1.out
    have hsort := sortRoutes_led (s := (s : Int)) (xs := xs) (fs := fs) hl1 0 rfl (HKN.out.below hl1.bl HKN.out.lt) (fun g' hg' e => by
      have h1 := (hl1.all 0 _ rfl).2 g' (.inl hg')
      have h2 := HSZ.out
      omega) HN.out (goodB_lens g) (fun r hr => by cases hr) (by decide)
    have q0 := hl1.cell 1 0 rfl rfl
    have HSORT := hid hsort
    clear hl1 hsort
    unfold capE at HSORT q0
    go_wp2_with fail
    refine Calls.mono HSORT.out ?_
    rintro e5 w5 ⟨rfl, ss5, rows5, hp5, hs5, hl5⟩
    have H5 := hid hl5
    have q1 := hl5.cell 1 0 rfl rfl
    have HP5 := hid hp5
    have HS5 := hid hs5
    clear hl5 HSORT q0 hp5 hs5
    go_wp2_with fail
    go_ret
    refine ⟨_, ss5, rows5, rfl, ?_, HS5.out, ?_, HB0.out.trans (H5.out.bl.mono HB0.out.size)⟩
    · rw [HR.out]; exact HP5.out
    · exact (show OwnsRS w5 w0.heap.size _ ss5 rows5 from H5.out.get 0 rfl).base_ HB0.out.size
  · have hst1 : ((s : Int) != (to : Int)) = true := by rw [bne_iff_ne]; omega
    have HR : Hid (rbL fs n s to = rtsL fs to n s [s] []) := by unfold Hid rbL; rw [if_neg hst]
    go_enter Tryz.func28, Tryz.ntmps28
    go_wp2_with fail
    generalize ((((((w.alloc (.cells #[.slice A n c, .slice A' m d] 27)).alloc (.cells #[.int .i64 (s : Int)] 3)).alloc (.cells #[.int .i64 (to : Int)] 3)).alloc (.cells #[] 32)).alloc (.cells #[.slice (some ⟨w.heap.size + 1 + 1 + 1, 0, none⟩) 0 0] 58)).alloc (.cells #[.func (.func 52) #[] #[.pointer (some ⟨w.heap.size + 1 + 1, 0, none⟩), .pointer (some ⟨w.heap.size + 1 + 1 + 1 + 1, 0, none⟩), .pointer (some ⟨w.heap.size + 1, 0, none⟩), .pointer (some ⟨w.heap.size, 0, none⟩), .pointer (some ⟨w.heap.size + 1 + 1 + 1 + 1 + 1, 0, none⟩)]] 85)) = W1 at HL1 ⊢
    have E0 : ∀ w', exS w0 (w.heap.size + 1 + 1) (w.heap.size + 1 + 1 + 1 + 1) (w.heap.size + 1) w.heap.size (w.heap.size + 1 + 1 + 1 + 1 + 1) w' → w'.cell? ⟨w.heap.size + 1 + 1 + 1 + 1 + 1, 0, none⟩ = some (.func (.func 52) #[] #[.pointer (some ⟨w.heap.size + 1 + 1, 0, none⟩), .pointer (some ⟨w.heap.size + 1 + 1 + 1 + 1, 0, none⟩), .pointer (some ⟨w.heap.size + 1, 0, none⟩), .pointer (some ⟨w.heap.size, 0, none⟩), .pointer (some ⟨w.heap.size + 1 + 1 + 1 + 1 + 1, 0, none⟩)]) := fun _ h => Led.cell h 0 0 rfl rfl
    have E1 : ∀ w', exS w0 (w.heap.size + 1 + 1) (w.heap.size + 1 + 1 + 1 + 1) (w.heap.size + 1) w.heap.size (w.heap.size + 1 + 1 + 1 + 1 + 1) w' → w'.cell? ⟨w.heap.size + 1, 0, none⟩ = some (.int .i64 (s : Int)) := fun _ h => bl_cell (Led.bl h) (by rw [HKF.out.cell]; rfl)
    have hpos : (2 : Nat) ^ s < 2 ^ 20 := Nat.pow_lt_pow_right (by decide) (by omega)
    have hw : IntKind.i64.wrap ((2 : Int) ^ s) = ((2 ^ s : Nat) : Int) := by
      have e : ((2 : Int) ^ s) = ((2 ^ s : Nat) : Int) := by simp
      rw [e]
      have h62 : 2 ^ s < 4611686018427387904 := Nat.lt_trans hpos (by decide)
      generalize 2 ^ s = y at *
      exact IntWalk.i64_in _ (by omega)
    have HW := hid hw
    have hS0 : exS w0 (w.heap.size + 1 + 1) (w.heap.size + 1 + 1 + 1 + 1) (w.heap.size + 1) w.heap.size (w.heap.size + 1 + 1 + 1 + 1 + 1) W1.drew := exS_of (HL1.out.step (Cls.drew W1))
    have HCALL := hid (ext_any HN.out g (by rw [HKT.out.cell]; rfl) (by rw [HKF.out.cell]; rfl) (by rw [HKN.out.cell]; rfl) (by rw [HKN.out.cell]; rfl) (gt := w.heap.size + 1 + 1) (gf := w.heap.size + 1) (gn := w.heap.size) (to := to) (s := s) n s (2 ^ s) [s] [] _ _ _ _ none 0 _ W1.drew (by simp) (fun u hu => by rw [List.mem_singleton.1 hu]; exact hs) (by simp; omega) hs hpos (fun u hu => by rw [Nat.testBit_two_pow, decide_eq_true_eq, List.mem_singleton]; exact eq_comm) (by
      have := rbL_len (fs := fs) (n := n) (s := s) (to := to) hn8 (by have := HN.out.flen; omega)
      rw [HR.out] at this
      simp; omega) rfl (Nat.le_refl _) (HL1.out.step (Cls.drew W1)))
    rw [← HW.out] at HCALL
    unfold capE at HCALL
    clear hpos hw
    have iu : IntKind.u64.wrap (s : Int) = (s : Int) := by rw [IntKind.wrap_u64]; omega
    have imn : min s 64 = s := by omega
    go_region_held3 (fun w' => exS w0 (w.heap.size + 1 + 1) (w.heap.size + 1 + 1 + 1 + 1) (w.heap.size + 1) w.heap.size (w.heap.size + 1 + 1 + 1 + 1 + 1) w') (first | exact hS0 | assumption)
      (first
        | (go_at_call 52; refine HCALL.out.mono ?_; rintro e4 w4 ⟨rfl, V4, ss4, h4⟩; have hS4 := exS_of h4))
    rw [List.nil_append] at h4
    have HLEN : Hid (ss4.length ≤ 1099511627776) := by
      have h1 := (show OwnsRS w4 w0.heap.size V4 ss4 _ from h4.get 0 rfl).2.1
      have := rbL_len (fs := fs) (n := n) (s := s) (to := to) hn8 (by have := HN.out.flen; omega)
      rw [HR.out] at this
      rw [List.length_map] at h1
      refine hid ?_
      omega
    have HOK : Hid (∀ r ∈ (rtsL fs to n s [s] []).map (fun r => ((s : Int), r)), r.1 = (s : Int) ∧ r.2.length ≤ 1048576 ∧ ∀ x ∈ r.2, 0 ≤ x ∧ x < fs.length) := fun r hr => by
      obtain ⟨q, hq, rfl⟩ := List.mem_map.1 hr
      have := rbL_ok (n := n) (fs := fs) (s := s) (to := to) q (by rw [HR.out]; exact hq)
      exact ⟨rfl, by simp only; omega, this.2⟩
    have H4 := hid h4
    clear h4 hS4 hS0 HCALL E0 E1
    have hl1 := H4.out
    obtain ⟨A4, c4, hv4, _⟩ := (show OwnsRS w4 w0.heap.size _ _ _ from hl1.get 0 rfl).1.form
    subst hv4
    have q0 := hl1.cell 1 0 rfl rfl
    have hsort := sortRoutes_led (s := (s : Int)) hl1 0 rfl (HKN.out.below hl1.bl HKN.out.lt) (fun g' hg' e => by
      have h1 := (hl1.all 0 _ rfl).2 g' (.inl hg')
      have h2 := HSZ.out
      omega) HN.out (goodB_lens g) HOK.out HLEN.out
    have HSORT := hid hsort
    have HBL := hid hl1.bl
    clear hl1 hsort
    go_wp2_with fail
    refine HSORT.out.mono ?_
    rintro e5 w5 ⟨rfl, ss5, rows5, hp5, hs5, hl5⟩
    have H5 := hid hl5
    have q1 := hl5.cell 1 0 rfl rfl
    have HP5 := hid hp5
    have HS5 := hid hs5
    clear hl5 HSORT q0 hp5 hs5
    go_wp2_with fail
    go_ret
    refine ⟨_, ss5, rows5, rfl, ?_, HS5.out, ?_, HB0.out.trans (H5.out.bl.mono HB0.out.size)⟩
    · rw [HR.out]; exact HP5.out
    · exact (show OwnsRS w5 w0.heap.size _ ss5 rows5 from H5.out.get 0 rfl).base_ HB0.out.size
end
end Go.Proofs.YtjfafhehpfjofaaGreat
/- What the search finds are routes, in plain Lean. Conditions: as each states. -/
namespace Go.Proofs.YtjfafhehpfjofaaGreat
open Go.RowKit
section
variable {fs : List Fib} {s : Int} {n : Nat}
theorem atW_app (a b : List Int) : ∀ k, k ≤ a.length → atW fs s (a ++ b) k = atW fs s a k := by
  intro k
  induction k with
  | zero => intro _; rfl
  | succ k ih =>
    intro h
    have e : (a ++ b).getD k 0 = a.getD k 0 := by rw [List.getD_eq_getElem?_getD, List.getD_eq_getElem?_getD, List.getElem?_append_left (by omega)]
    unfold atW
    rw [ih (by omega), e]
theorem outW_app (a b : List Int) {k : Nat} (h : k ≤ a.length) : outW fs s (a ++ b) k = outW fs s a k := by
  unfold outW
  refine List.map_congr_left fun j hj => atW_app a b j ?_
  have := List.mem_range.1 hj
  omega
theorem okW_app {m : Nat} (a b : List Int) {k : Nat} (h : k < a.length) : okW m fs s (a ++ b) k = okW m fs s a k := by
  have e : (a ++ b).getD k 0 = a.getD k 0 := by rw [List.getD_eq_getElem?_getD, List.getD_eq_getElem?_getD, List.getElem?_append_left (by omega)]
  unfold okW
  rw [e, atW_app a b (k + 1) h, outW_app a b (Nat.le_of_lt h)]
theorem nxF_inv {i v u : Nat} (h : nxF fs i v = some u) : otherF (fibD fs i) (v : Int) = (u : Int) := by
  unfold nxF at h
  split at h
  · rename_i h0
    injection h with h
    omega
  · cases h
theorem rts_ok {to : Nat} : ∀ (k v : Nat) (seen : List Nat) (ids : List Int), outW fs s ids ids.length = seenI seen → seen.head? = some v → allTo (okW fs.length fs s ids) ids.length →
    ∀ r ∈ rtsL fs to k v seen ids, allTo (okW fs.length fs s r) r.length ∧ (v ≠ to → ids.length < r.length) ∧ atW fs s r r.length = (to : Int) := by
  intro k
  induction k with
  | zero => intro v seen ids _ _ _ r hr; cases hr
  | succ k ih =>
    intro v seen ids ho hh ha r hr
    have hv : atW fs s ids ids.length = (v : Int) := by
      have h1 := outW_get fs s ids ids.length
      obtain ⟨tl, rfl⟩ : ∃ tl, seen = v :: tl := by
        cases seen with
        | nil => cases hh
        | cons a tl => injection hh with hh; subst hh; exact ⟨tl, rfl⟩
      have hl := congrArg List.length ho
      rw [outW_len, seenI_len, List.length_cons] at hl
      rw [ho, seenI_cons, List.getElem?_append_right (by rw [seenI_len]; omega), seenI_len, show ids.length - tl.length = 0 by omega] at h1
      simp at h1
      exact h1.symm
    by_cases hvt : v = to
    · subst hvt
      rw [rtsL_end, List.mem_singleton] at hr
      subst hr
      exact ⟨ha, fun h => absurd rfl h, hv⟩
    · rw [rtsL_on hvt] at hr
      unfold rtsJ at hr
      obtain ⟨i, hi, hr⟩ := List.mem_flatMap.1 hr
      have hi2 : i < fs.length := by simpa using hi
      unfold rtsI at hr
      split at hr
      · rename_i u hu
        split at hr
        · cases hr
        · rename_i hns
          have hou := nxF_inv hu
          have hlen : (ids ++ [(i : Int)]).length = ids.length + 1 := by simp
          have hget : (ids ++ [(i : Int)]).getD ids.length 0 = (i : Int) := by rw [List.getD_eq_getElem?_getD]; simp
          have hat : atW fs s (ids ++ [(i : Int)]) (ids.length + 1) = (u : Int) := by
            unfold atW
            rw [hget, atW_app _ _ _ (Nat.le_refl _), hv]
            exact hou
          have hol := outW_app (fs := fs) (s := s) ids [(i : Int)] (Nat.le_refl _)
          have h1 := ih u (u :: seen) (ids ++ [(i : Int)]) (by rw [hlen, outW_succ, hol, ho, hat, seenI_cons]) rfl (by
            rw [hlen]
            refine allTo_succ (fun j hj => ?_) ?_
            · rw [okW_app _ _ hj]; exact ha j hj
            · unfold okW
              rw [hget, hat, hol, ho]
              have h2 : hasB (seenI seen) (u : Int) = false := Bool.eq_false_iff.2 (fun h => hns (seenI_mem.1 (hasB_iff.1 h)))
              rw [h2]
              unfold inB
              simp
              omega) r hr
          refine ⟨h1.1, fun _ => ?_, h1.2.2⟩
          obtain ⟨e, he, _⟩ := rtsL_mem _ _ _ _ r hr
          rw [he, List.length_append, hlen]; omega
      · cases hr
theorem rbL_rt {s to : Nat} (hs : s < n) {r : List Int} (h : r ∈ rbL fs n s to) : rtB n fs (s : Int) r = true ∧ atW fs (s : Int) r r.length = (to : Int) := by
  unfold rbL at h
  split at h
  · cases h
  · rename_i hne
    obtain ⟨h1, h2, h3⟩ := rts_ok (s := (s : Int)) n s [s] [] rfl rfl (allTo_zero _) r h
    have h2 := h2 hne
    refine ⟨?_, h3⟩
    unfold rtB
    rw [allB_iff.2 h1]
    unfold inB
    have : (r.length == 0) = false := by rw [beq_eq_false_iff_ne]; simp at h2; omega
    rw [this]
    simp
    omega
end
end Go.Proofs.YtjfafhehpfjofaaGreat
/- The best route, by a search that leaves out what cannot be better, in plain Lean: it is the best of all routes. Conditions: as each states. -/
namespace Go.Proofs.YtjfafhehpfjofaaGreat
open Go.RowKit
/-- The route found; its start. -/
def frL (o : Option (List Int)) : List Int := o.getD []
def frS (o : Option (List Int)) (s : Int) : Int := if o.isSome then s else 0
def nxQ (q : Nat → Bool) (fs : List Fib) (i v : Nat) : Option Nat := if q i then none else nxF fs i v
/-- All routes on from v that use no fiber of q. -/
def rtsQ (q : Nat → Bool) (fs : List Fib) (to k v : Nat) (seen : List Nat) (ids : List Int) : List (List Int) := dfsL fs.length to (nxQ q fs) k v seen ids
/-- Is r better than what was found? -/
def btR (few : Bool) (fs : List Fib) (s : Int) : Option (List Int) → List Int → Bool
  | none, _ => true
  | some b, r => if few && !(r.length == b.length) then decide (r.length < b.length) else decide (ordR fs s r s b < 0)
/-- Nothing from v on can be better. -/
def cutR (few : Bool) (fs : List Fib) (D : List Int) (v : Nat) (ids : List Int) : Option (List Int) → Bool
  | none => decide (valL D v < 0)
  | some b => (decide (valL D v < 0) || (!few && decide (lenR fs b < lenR fs ids + valL D v))) || (few && decide (b.length ≤ ids.length))
def bst (few : Bool) (fs : List Fib) (s : Int) (o : Option (List Int)) (r : List Int) : Option (List Int) := if btR few fs s o r then some r else o
def bbL (q : Nat → Bool) (few : Bool) (fs : List Fib) (s : Int) (D : List Int) (to : Nat) : Nat → Nat → List Nat → List Int → Option (List Int) → Option (List Int)
  | 0, _, _, _, o => o
  | k + 1, v, seen, ids, o => if v = to then bst few fs s o ids else if cutR few fs D v ids o then o else (List.range fs.length).foldl (fun o i => match nxQ q fs i v with
    | some u => if u ∈ seen then o else bbL q few fs s D to k u (u :: seen) (ids ++ [(i : Int)]) o
    | none => o) o
section
variable {q : Nat → Bool} {few : Bool} {fs : List Fib} {n to : Nat} {s : Int}
theorem lenR_sum (ids : List Int) : lenR fs ids = (ids.map fun i => (fs.getD i.toNat ⟨0, 0, 0, 0⟩).len).sum := by unfold lenR rlTo; rw [List.take_length]
theorem lenR_app (a b : List Int) : lenR fs (a ++ b) = lenR fs a + lenR fs b := by rw [lenR_sum, lenR_sum, lenR_sum, List.map_append, List.sum_append]
theorem lenR_one (i : Nat) : lenR fs [(i : Int)] = (fibD fs i).len := by rw [lenR_sum]; simp [fibD]
theorem dist_src (he : endsB n fs) (hl : lensB fs) (hs : to < n) : 0 ≤ valL (distL q fs n to) to ∧ valL (distL q fs n to) to ≤ 0 := by
  have key : ∀ k, better (valL (dstRnd q fs n to k) to) (valL (dst0 n to) to) := by
    intro k
    induction k with
    | zero => exact better_refl _
    | succ k ih => exact better_trans (dstPass_better (dstRnd_len k) he hl to) ih
  have h := key n
  rw [dst0_val hs to hs, if_pos rfl] at h
  unfold better at h
  unfold distL
  omega
theorem dist_arc (he : endsB n fs) (hl : lensB fs) (hs : to < n) {i u v : Nat} (hi : i < fs.length) (hq : q i = false) (h : nxF fs i v = some u) (hu : 0 ≤ valL (distL q fs n to) u) :
    0 ≤ valL (distL q fs n to) v ∧ valL (distL q fs n to) v ≤ (fibD fs i).len + valL (distL q fs n to) u := by
  have hf := distL_fixed (q := q) he hl hs
  obtain ⟨h0, h1, h2⟩ := he i hi
  have key : ∀ j, j < 2 * fs.length → j / 2 = i → arcU fs j = u → arcV fs j = v → 0 ≤ valL (distL q fs n to) v ∧ valL (distL q fs n to) v ≤ (fibD fs i).len + valL (distL q fs n to) u := by
    intro j hj hji hU hV
    have hno : ¬ (canB (arcU fs j) (arcV fs j) (arcLn fs j) (distL q fs n to) = true) := fun hx => hf _ ⟨j, hj, by rw [hji]; exact hq, hx, Int.le_refl _⟩
    rw [canB_iff, hU, hV] at hno
    have hL : arcLn fs j = (fibD fs i).len := by unfold arcLn; rw [hji]
    rw [hL] at hno
    omega
  unfold nxF otherF at h
  by_cases ha : (v : Int) = (fibD fs i).a
  · rw [if_pos ha] at h
    rw [if_pos (by omega)] at h
    injection h with h
    refine key (2 * i + 1) (by omega) (by omega) ?_ ?_
    · unfold arcU; rw [if_neg (by omega), show (2 * i + 1) / 2 = i by omega]; exact h
    · unfold arcV; rw [if_neg (by omega), show (2 * i + 1) / 2 = i by omega]; omega
  · rw [if_neg ha] at h
    by_cases hb : (v : Int) = (fibD fs i).b
    · rw [if_pos hb] at h
      rw [if_pos (by omega)] at h
      injection h with h
      refine key (2 * i) (by omega) (by omega) ?_ ?_
      · unfold arcU; rw [if_pos (by omega), show (2 * i) / 2 = i by omega]; exact h
      · unfold arcV; rw [if_pos (by omega), show (2 * i) / 2 = i by omega]; omega
    · rw [if_neg hb] at h
      simp at h
theorem rtsQ_on {k v : Nat} {seen : List Nat} {ids : List Int} (h : v ≠ to) : rtsQ q fs to (k + 1) v seen ids = (List.range fs.length).flatMap fun i => match nxQ q fs i v with
    | some u => if u ∈ seen then [] else rtsQ q fs to k u (u :: seen) (ids ++ [(i : Int)])
    | none => [] := by
  unfold rtsQ
  rw [dfsL, if_neg h]
  rfl
theorem rtsQ_end {k : Nat} {seen : List Nat} {ids : List Int} : rtsQ q fs to (k + 1) to seen ids = [ids] := by unfold rtsQ; rw [dfsL, if_pos rfl]
/-- What is found from v: fibers on, as far at least as the distance says. -/
theorem rtsQ_mem (he : endsB n fs) (hl : lensB fs) (hs : to < n) : ∀ (k v : Nat) (seen : List Nat) (ids : List Int), ∀ r ∈ rtsQ q fs to k v seen ids, ∃ e, r = ids ++ e ∧ (v ≠ to → 1 ≤ e.length) ∧ 0 ≤ valL (distL q fs n to) v ∧ valL (distL q fs n to) v ≤ lenR fs e := by
  intro k
  induction k with
  | zero => intro v seen ids r hr; cases hr
  | succ k ih =>
    intro v seen ids r hr
    by_cases hv : v = to
    · subst hv
      rw [rtsQ_end, List.mem_singleton] at hr
      subst hr
      have := dist_src (q := q) he hl hs
      exact ⟨[], by simp, fun h => absurd rfl h, this.1, this.2⟩
    · rw [rtsQ_on hv] at hr
      obtain ⟨i, hi, hr⟩ := List.mem_flatMap.1 hr
      have hi2 : i < fs.length := by simpa using hi
      split at hr
      · rename_i u hu
        split at hr
        · cases hr
        · obtain ⟨e, rfl, _, h2, h3⟩ := ih _ _ _ r hr
          unfold nxQ at hu
          split at hu
          · cases hu
          · rename_i hq
            have h4 := dist_arc (q := q) he hl hs hi2 (by simpa using hq) hu h2
            refine ⟨[(i : Int)] ++ e, by simp, fun _ => by simp, h4.1, ?_⟩
            rw [lenR_app, lenR_one]
            omega
      · cases hr
theorem cut_worse (he : endsB n fs) (hl : lensB fs) (hs : to < n) {k v : Nat} {seen : List Nat} {ids : List Int} {o : Option (List Int)} (hv : v ≠ to) (h : cutR few fs (distL q fs n to) v ids o = true) : ∀ r ∈ rtsQ q fs to k v seen ids, btR few fs s o r = false := by
  intro r hr
  obtain ⟨e, rfl, h1, h2, h3⟩ := rtsQ_mem he hl hs k v seen ids r hr
  have h1 := h1 hv
  cases o with
  | none => unfold cutR at h; rw [decide_eq_true_eq] at h; omega
  | some b =>
    unfold cutR at h
    unfold btR
    rw [Bool.or_eq_true, Bool.or_eq_true, Bool.and_eq_true, Bool.and_eq_true, decide_eq_true_eq, decide_eq_true_eq, decide_eq_true_eq] at h
    rcases h with (h | h) | h
    · omega
    · have hf : few = false := by simpa using h.1
      subst hf
      simp only [Bool.false_and, Bool.false_eq_true, if_false]
      rw [decide_eq_false_iff_not, ordR_eq, lenR_app]
      rw [if_neg (by omega), if_pos (by omega)]
      omega
    · have hf := h.1
      subst hf
      have hlt : ¬ (ids ++ e).length = b.length := by rw [List.length_append]; omega
      have hx : (true && !((ids ++ e).length == b.length)) = true := by rw [Bool.true_and, Bool.not_eq_true', beq_eq_false_iff_ne]; exact hlt
      show (if (true && !((ids ++ e).length == b.length)) = true then decide ((ids ++ e).length < b.length) else decide (ordR fs s (ids ++ e) s b < 0)) = false
      rw [if_pos hx, decide_eq_false_iff_not, List.length_append]
      omega
theorem bst_stay {o : Option (List Int)} : ∀ (l : List (List Int)), (∀ r ∈ l, btR few fs s o r = false) → l.foldl (bst few fs s) o = o := by
  intro l
  induction l with
  | nil => intro _; rfl
  | cons r l ih =>
    intro h
    have e : bst few fs s o r = o := by unfold bst; rw [h r List.mem_cons_self]; rfl
    rw [List.foldl_cons, e]
    exact ih fun x hx => h x (List.mem_cons_of_mem _ hx)
/-- What is left out changes nothing. -/
theorem bbL_eq (he : endsB n fs) (hl : lensB fs) (hs : to < n) : ∀ (k v : Nat) (seen : List Nat) (ids : List Int) (o : Option (List Int)), bbL q few fs s (distL q fs n to) to k v seen ids o = (rtsQ q fs to k v seen ids).foldl (bst few fs s) o := by
  intro k
  induction k with
  | zero => intro v seen ids o; rfl
  | succ k ih =>
    intro v seen ids o
    by_cases hv : v = to
    · subst hv
      rw [rtsQ_end]
      unfold bbL
      rw [if_pos rfl]
      rfl
    · unfold bbL
      rw [if_neg hv]
      cases hc : cutR few fs (distL q fs n to) v ids o
      · rw [if_neg (by decide), rtsQ_on hv]
        suffices hh : ∀ (is : List Nat) (o : Option (List Int)), is.foldl (fun o i => match nxQ q fs i v with
            | some u => if u ∈ seen then o else bbL q few fs s (distL q fs n to) to k u (u :: seen) (ids ++ [(i : Int)]) o
            | none => o) o = (is.flatMap fun i => match nxQ q fs i v with
            | some u => if u ∈ seen then [] else rtsQ q fs to k u (u :: seen) (ids ++ [(i : Int)])
            | none => []).foldl (bst few fs s) o from hh _ _
        intro is
        induction is with
        | nil => intro o; rfl
        | cons i is ihs =>
          intro o
          rw [List.foldl_cons, List.flatMap_cons, List.foldl_append, ihs]
          congr 1
          cases nxQ q fs i v with
          | none => rfl
          | some u =>
            simp only []
            split
            · rfl
            · exact ih _ _ _ _
      · rw [if_pos rfl, bst_stay _ (cut_worse he hl hs hv hc)]
/-- The order that the search goes by. -/
def le2 (few : Bool) (fs : List Fib) (s : Int) (a b : List Int) : Prop := if few then a.length < b.length ∨ (a.length = b.length ∧ leR fs s a b) else leR fs s a b
theorem le2_refl (a : List Int) : le2 few fs s a a := by
  have h : leR fs s a a := by
    rcases Classical.em (leR fs s a a) with h | h
    · exact h
    · exact leR_total h
  unfold le2; split
  · exact .inr ⟨rfl, h⟩
  · exact h
theorem le2_trans {a b c : List Int} (h1 : le2 few fs s a b) (h2 : le2 few fs s b c) : le2 few fs s a c := by
  unfold le2 at *
  split at h1
  · rename_i hf
    rw [if_pos hf] at *
    rcases h1 with h1 | ⟨h1, h3⟩
    · rcases h2 with h2 | ⟨h2, h4⟩
      · exact .inl (by omega)
      · exact .inl (by omega)
    · rcases h2 with h2 | ⟨h2, h4⟩
      · exact .inl (by omega)
      · exact .inr ⟨by omega, leR_trans h3 h4⟩
  · rename_i hf
    rw [if_neg hf] at *
    exact leR_trans h1 h2
theorem le2_anti {a b : List Int} (h1 : le2 few fs s a b) (h2 : le2 few fs s b a) : a = b := by
  unfold le2 at *
  split at h1
  · rename_i hf
    rw [if_pos hf] at *
    rcases h1 with h1 | ⟨h1, h3⟩
    · rcases h2 with h2 | ⟨h2, h4⟩ <;> omega
    · rcases h2 with h2 | ⟨h2, h4⟩
      · omega
      · exact leR_anti h3 h4
  · rename_i hf
    rw [if_neg hf] at *
    exact leR_anti h1 h2
theorem ordR_turn (a b : List Int) : ordR fs s a s b = -ordR fs s b s a := by
  rw [ordR_eq, ordR_eq]
  have hf := cmpL_flip a b
  repeat' split
  all_goals omega
theorem btR_iff {b r : List Int} : btR few fs s (some b) r = true ↔ ¬ le2 few fs s b r := by
  have hf := ordR_turn (fs := fs) (s := s) r b
  unfold btR le2 leR
  cases few
  · simp only [Bool.false_and, Bool.false_eq_true, if_false, decide_eq_true_eq]
    omega
  · by_cases h : r.length = b.length
    · simp only [h, Bool.true_and, beq_self_eq_true, Bool.not_true, Bool.false_eq_true, if_false, decide_eq_true_eq, if_true]
      constructor
      · rintro h1 (h2 | ⟨_, h2⟩) <;> omega
      · intro h1
        rcases Int.lt_or_le (ordR fs s r s b) 0 with h2 | h2
        · exact h2
        · exact absurd (.inr ⟨by first | trivial | rfl, by omega⟩) h1
    · have h2 : (r.length == b.length) = false := by rw [beq_eq_false_iff_ne]; exact h
      simp only [h2, Bool.true_and, Bool.not_false, if_true, decide_eq_true_eq]
      omega
theorem le2_of_not {a b : List Int} (h : ¬ le2 few fs s a b) : le2 few fs s b a := by
  unfold le2 at *
  split at h
  · rename_i hf
    rw [if_pos hf]
    rcases Nat.lt_trichotomy b.length a.length with h1 | h1 | h1
    · exact .inl h1
    · exact .inr ⟨h1, leR_total fun h2 => h (.inr ⟨h1.symm, h2⟩)⟩
    · exact absurd (.inl h1) h
  · rename_i hf
    rw [if_neg hf]
    exact leR_total h
theorem best_some : ∀ (l : List (List Int)) (b : List Int), ∃ m, l.foldl (bst few fs s) (some b) = some m ∧ (m = b ∨ m ∈ l) ∧ le2 few fs s m b ∧ ∀ x ∈ l, le2 few fs s m x := by
  intro l
  induction l with
  | nil => intro b; exact ⟨b, rfl, .inl rfl, le2_refl b, fun x hx => by cases hx⟩
  | cons r l ih =>
    intro b
    rw [List.foldl_cons]
    by_cases h : le2 few fs s b r
    · have e : bst few fs s (some b) r = some b := by
        unfold bst
        rw [if_neg (fun h2 => btR_iff.1 h2 h)]
      rw [e]
      obtain ⟨m, h1, h2, h3, h4⟩ := ih b
      refine ⟨m, h1, h2.elim .inl (fun x => .inr (List.mem_cons_of_mem _ x)), h3, fun x hx => ?_⟩
      rcases List.mem_cons.1 hx with rfl | hx
      · exact le2_trans h3 h
      · exact h4 x hx
    · have e : bst few fs s (some b) r = some r := by
        unfold bst
        rw [if_pos (btR_iff.2 h)]
      rw [e]
      obtain ⟨m, h1, h2, h3, h4⟩ := ih r
      refine ⟨m, h1, .inr (h2.elim (fun x => by rw [x]; exact List.mem_cons_self) (fun x => List.mem_cons_of_mem _ x)), le2_trans h3 (le2_of_not h), fun x hx => ?_⟩
      rcases List.mem_cons.1 hx with rfl | hx
      · exact h3
      · exact h4 x hx
theorem best_of (l : List (List Int)) : (l = [] ∧ l.foldl (bst few fs s) none = none) ∨ ∃ m, l.foldl (bst few fs s) none = some m ∧ m ∈ l ∧ ∀ x ∈ l, le2 few fs s m x := by
  cases l with
  | nil => exact .inl ⟨rfl, rfl⟩
  | cons r l =>
    obtain ⟨m, h1, h2, h3, h4⟩ := best_some (few := few) (fs := fs) (s := s) l r
    refine .inr ⟨m, h1, ?_, fun x hx => ?_⟩
    · rcases h2 with rfl | h2
      · exact List.mem_cons_self
      · exact List.mem_cons_of_mem _ h2
    · rcases List.mem_cons.1 hx with rfl | hx
      · exact h3
      · exact h4 x hx
/-- A route that uses no fiber of q. -/
def avQ (q : Nat → Bool) (r : List Int) : Bool := r.all fun x => !q x.toNat
theorem rtsQ_filter : ∀ (k v : Nat) (seen : List Nat) (ids : List Int), avQ q ids = true → rtsQ q fs to k v seen ids = (rtsL fs to k v seen ids).filter (avQ q) := by
  intro k
  induction k with
  | zero => intro v seen ids _; rfl
  | succ k ih =>
    intro v seen ids h
    by_cases hv : v = to
    · subst hv
      rw [rtsQ_end, rtsL_end, List.filter_cons, h]
      rfl
    · rw [rtsQ_on hv, rtsL_on hv]
      unfold rtsJ
      rw [List.filter_flatMap]
      congr 1
      funext i
      unfold nxQ rtsI
      cases hq : q i
      · simp only [Bool.false_eq_true, if_false]
        cases nxF fs i v with
        | none => rfl
        | some u =>
          simp only []
          split
          · rfl
          · refine ih _ _ _ ?_
            unfold avQ at *
            rw [List.all_append, h]
            simp [hq]
      · simp only [if_true]
        cases nxF fs i v with
        | none => rfl
        | some u =>
          simp only []
          split
          · rfl
          · symm
            rw [List.filter_eq_nil_iff]
            intro r hr
            obtain ⟨e, rfl, _⟩ := rtsL_mem _ _ _ _ r hr
            unfold avQ
            rw [List.all_append, List.all_append]
            simp [hq]
theorem find_least {p : List Int → Bool} : ∀ {l : List (List Int)} {r : List Int}, l.Pairwise (leR fs s) → l.find? p = some r → ∀ y ∈ l, p y = true → leR fs s r y := by
  intro l
  induction l with
  | nil => intro r _ h; cases h
  | cons x l ih =>
    intro r hp h y hy hpy
    rw [List.pairwise_cons] at hp
    rw [List.find?_cons] at h
    cases hx : p x
    · rw [hx] at h
      rcases List.mem_cons.1 hy with rfl | hy
      · rw [hx] at hpy; cases hpy
      · exact ih hp.2 h y hy hpy
    · rw [hx] at h
      injection h with h
      subst h
      rcases List.mem_cons.1 hy with rfl | hy
      · have := le2_refl (few := false) (fs := fs) (s := s) y
        unfold le2 at this
        simpa using this
      · exact hp.1 y hy
/-- The first in the order of all routes that hold: the best of them. -/
theorem best_first (D : List (List Int)) (p : List Int → Bool) : (D.filter p).foldl (bst false fs s) none = (srtR fs s D).find? p := by
  have hs := srtR_ok (fs := fs) (s := s) D
  rcases best_of (few := false) (fs := fs) (s := s) (D.filter p) with ⟨h1, h2⟩ | ⟨m, h1, h2, h3⟩
  · rw [h2]
    symm
    rw [List.find?_eq_none]
    intro x hx hpx
    have : x ∈ D.filter p := List.mem_filter.2 ⟨hs.2.mem_iff.1 hx, hpx⟩
    rw [h1] at this
    cases this
  · rw [h1]
    obtain ⟨hm, hpm⟩ := List.mem_filter.1 h2
    cases hf : (srtR fs s D).find? p with
    | none => exact absurd hpm (List.find?_eq_none.1 hf m (hs.2.mem_iff.2 hm))
    | some r =>
      have hr1 := List.mem_of_find?_eq_some hf
      have hr2 := List.find?_some hf
      have a1 : leR fs s r m := find_least hs.1 hf m (hs.2.mem_iff.2 hm) hpm
      have a2 : le2 false fs s m r := h3 r (List.mem_filter.2 ⟨hs.2.mem_iff.1 hr1, hr2⟩)
      unfold le2 at a2
      rw [leR_anti a1 (by simpa using a2)]
/-- The first of the fewest, as MinFunc goes. -/
def mnF (o : Option (List Int)) (r : List Int) : Option (List Int) := match o with
  | none => some r
  | some b => if r.length < b.length then some r else some b
def mnO (l : List (List Int)) : Option (List Int) := l.foldl mnF none
theorem mnF_some : ∀ (l : List (List Int)) (b : List Int), (∀ x ∈ l, leR fs s b x) → l.Pairwise (leR fs s) → ∃ m, l.foldl mnF (some b) = some m ∧ (m = b ∨ m ∈ l) ∧ le2 true fs s m b ∧ ∀ x ∈ l, le2 true fs s m x := by
  intro l
  induction l with
  | nil => intro b _ _; exact ⟨b, rfl, .inl rfl, le2_refl b, fun x hx => by cases hx⟩
  | cons r l ih =>
    intro b hb hp
    rw [List.pairwise_cons] at hp
    rw [List.foldl_cons]
    by_cases h : r.length < b.length
    · have e : mnF (some b) r = some r := by unfold mnF; simp [h]
      rw [e]
      obtain ⟨m, h1, h2, h3, h4⟩ := ih r hp.1 hp.2
      have hrb : le2 true fs s r b := .inl h
      refine ⟨m, h1, .inr (h2.elim (fun x => by rw [x]; exact List.mem_cons_self) (fun x => List.mem_cons_of_mem _ x)), le2_trans h3 hrb, fun x hx => ?_⟩
      rcases List.mem_cons.1 hx with rfl | hx
      · exact h3
      · exact h4 x hx
    · have e : mnF (some b) r = some b := by unfold mnF; simp [h]
      rw [e]
      obtain ⟨m, h1, h2, h3, h4⟩ := ih b (fun x hx => hb x (List.mem_cons_of_mem _ hx)) hp.2
      have hbr : le2 true fs s b r := by
        show b.length < r.length ∨ _
        rcases Nat.lt_or_ge b.length r.length with h5 | h5
        · exact .inl h5
        · exact .inr ⟨by omega, hb r List.mem_cons_self⟩
      refine ⟨m, h1, h2.elim .inl (fun x => .inr (List.mem_cons_of_mem _ x)), h3, fun x hx => ?_⟩
      rcases List.mem_cons.1 hx with rfl | hx
      · exact le2_trans h3 hbr
      · exact h4 x hx
theorem best_few (D : List (List Int)) : D.foldl (bst true fs s) none = mnO (srtR fs s D) := by
  have hs := srtR_ok (fs := fs) (s := s) D
  unfold mnO
  rcases best_of (few := true) (fs := fs) (s := s) D with ⟨h1, h2⟩ | ⟨m, h1, h2, h3⟩
  · subst h1; rfl
  · rw [h1]
    cases hl : srtR fs s D with
    | nil => rw [hl] at hs; exact absurd (hs.2.mem_iff.2 h2) (by simp)
    | cons r l =>
      rw [hl] at hs
      have hp := List.pairwise_cons.1 hs.1
      obtain ⟨m2, g1, g2, g3, g4⟩ := mnF_some l r hp.1 hp.2
      show some m = l.foldl mnF (some r)
      rw [g1]
      have hm2 : m2 ∈ D := hs.2.mem_iff.1 (by
        rcases g2 with rfl | g2
        · exact List.mem_cons_self
        · exact List.mem_cons_of_mem _ g2)
      have hm : le2 true fs s m2 m := by
        rcases List.mem_cons.1 (hs.2.mem_iff.2 h2) with h | h
        · rw [h]; exact g3
        · exact g4 m h
      rw [le2_anti (h3 m2 hm2) hm]
end
end Go.Proofs.YtjfafhehpfjofaaGreat
/- Routes turned round and joined, in plain Lean. Conditions: as each states. -/
namespace Go.Proofs.YtjfafhehpfjofaaGreat
open Go.RowKit
section
variable {n : Nat} {fs : List Fib} {s : Int} {ids : List Int}
theorem otherF_back {f : Fib} {v : Int} (h1 : 0 ≤ f.a ∧ f.a < f.b) (h : 0 ≤ otherF f v) : otherF f (otherF f v) = v := by
  unfold otherF at *
  by_cases ha : v = f.a
  · rw [if_pos ha, if_neg (by omega), if_pos rfl]; exact ha.symm
  · by_cases hb : v = f.b
    · rw [if_neg ha, if_pos hb, if_pos rfl]; exact hb.symm
    · rw [if_neg ha, if_neg hb] at h; omega
theorem otherF_ends {f : Fib} {v : Int} (h : 0 ≤ otherF f v) : (v = f.a ∧ otherF f v = f.b) ∨ (v = f.b ∧ v ≠ f.a ∧ otherF f v = f.a) := by
  unfold otherF at *
  by_cases ha : v = f.a
  · rw [if_pos ha]; exact .inl ⟨ha, rfl⟩
  · by_cases hb : v = f.b
    · rw [if_neg ha, if_pos hb]; exact .inr ⟨hb, ha, rfl⟩
    · rw [if_neg ha, if_neg hb] at h; omega
theorem fibB_ab {f : Fib} (h : fibB n f = true) : 0 ≤ f.a ∧ f.a < f.b := by
  unfold fibB at h
  simp at h
  omega
theorem atW_range (hf : ∀ f ∈ fs, fibB n f = true) (h : rtB n fs s ids = true) {k : Nat} (hk : k ≤ ids.length) : 0 ≤ atW fs s ids k ∧ atW fs s ids k < n :=
  outW_range hf h k hk _ (List.mem_of_getElem? (outW_get fs s ids k))
theorem atW_ne (h : rtB n fs s ids = true) {i j : Nat} (hij : i < j) (hj : j ≤ ids.length) : atW fs s ids i ≠ atW fs s ids j := by
  have h1 := outW_nodup (rtB_parts h).2.2 _ (Nat.le_refl _)
  rw [List.Nodup, List.pairwise_iff_getElem] at h1
  have h2 := h1 i j (by rw [outW_len]; omega) (by rw [outW_len]; omega) hij
  simpa [outW] using h2
/-- Step j of a route: its fiber, and where it leads. -/
theorem rt_step (hf : ∀ f ∈ fs, fibB n f = true) (h : rtB n fs s ids = true) {j : Nat} (hj : j < ids.length) :
    ∃ i f, ids[j]? = some i ∧ fs[i.toNat]? = some f ∧ 0 ≤ i ∧ (0 ≤ f.a ∧ f.a < f.b) ∧ atW fs s ids (j + 1) = otherF f (atW fs s ids j) ∧ 0 ≤ otherF f (atW fs s ids j) := by
  have hi := rtB_at h (List.getElem?_eq_getElem hj)
  have hfi : fs[(ids[j]).toNat]? = some (fs[(ids[j]).toNat]'(by omega)) := List.getElem?_eq_getElem _
  have e := atW_succ (s := s) (List.getElem?_eq_getElem hj) hfi
  have hr := atW_range hf h (k := j + 1) (by omega)
  exact ⟨_, _, List.getElem?_eq_getElem hj, hfi, hi.1, fibB_ab (hf _ (List.mem_of_getElem? hfi)), e, by rw [← e]; exact hr.1⟩
/-- No fiber is used twice. -/
theorem rt_once (hf : ∀ f ∈ fs, fibB n f = true) (h : rtB n fs s ids = true) {u v : Nat} {x : Int} (huv : u < v) (hu : ids[u]? = some x) (hv : ids[v]? = some x) : False := by
  have hul := (List.getElem?_eq_some_iff.1 hu).1
  have hvl := (List.getElem?_eq_some_iff.1 hv).1
  obtain ⟨i, f, h1, h2, _, hab, h3, h4⟩ := rt_step hf h hul
  obtain ⟨i', f', k1, k2, _, _, k3, k4⟩ := rt_step hf h hvl
  rw [hu] at h1; injection h1 with h1; subst h1
  rw [hv] at k1; injection k1 with k1; subst k1
  rw [h2] at k2; injection k2 with k2; subst k2
  have n1 := atW_ne h huv (by omega)
  have n2 := atW_ne h (show u < v + 1 by omega) (by omega)
  rw [k3] at n2
  have back := otherF_back hab h4
  have e : atW fs s ids v = otherF f (atW fs s ids u) := by
    rcases otherF_ends h4 with ⟨a1, a2⟩ | ⟨a1, _, a2⟩ <;> rcases otherF_ends k4 with ⟨b1, b2⟩ | ⟨b1, _, b2⟩
    · exact absurd (a1.trans b1.symm) n1
    · rw [a2]; exact b1
    · rw [a2]; exact b1
    · exact absurd (a1.trans b1.symm) n1
  rw [e, back] at n2
  exact n2 rfl
theorem rev_at (hf : ∀ f ∈ fs, fibB n f = true) (h : rtB n fs s ids = true) : ∀ k, k ≤ ids.length → atW fs (atW fs s ids ids.length) ids.reverse k = atW fs s ids (ids.length - k) := by
  intro k
  induction k with
  | zero => intro _; rfl
  | succ k ih =>
    intro hk
    obtain ⟨i, f, h1, h2, _, hab, h3, h4⟩ := rt_step hf h (j := ids.length - 1 - k) (by omega)
    have hr : ids.reverse[k]? = some i := by rw [List.getElem?_reverse (by omega)]; exact h1
    rw [atW_succ hr h2, ih (by omega), show ids.length - k = (ids.length - 1 - k) + 1 by omega, h3, otherF_back hab h4]
    congr 1
    omega
theorem rev_ok (hf : ∀ f ∈ fs, fibB n f = true) (h : rtB n fs s ids = true) : rtB n fs (atW fs s ids ids.length) ids.reverse = true := by
  have hr := atW_range hf h (k := ids.length) (Nat.le_refl _)
  have hne := (rtB_parts h).2.1
  unfold rtB
  rw [Bool.and_eq_true, Bool.and_eq_true]
  refine ⟨by unfold inB; simp; omega, by simpa using hne, allB_iff.2 fun k hk => ?_⟩
  have hk2 : k < ids.length := by simpa using hk
  have hat := rev_at hf h
  have h1 := atW_range hf h (k := ids.length - (k + 1)) (by omega)
  have hm := rtB_mem h (ids.reverse.getD k 0) (by
    rw [List.getD_eq_getElem?_getD, List.getElem?_reverse hk2, List.getElem?_eq_getElem (by omega)]
    exact List.getElem_mem _)
  have hin : inB 0 ((fs.length : Int) - 1) (ids.reverse.getD k 0) = true := by
    generalize ids.reverse.getD k 0 = y at hm
    unfold inB; simp; omega
  unfold okW
  rw [Bool.and_eq_true, Bool.and_eq_true, hat (k + 1) (by omega)]
  refine ⟨hin, by rw [Bool.not_eq_true', decide_eq_false_iff_not]; omega, ?_⟩
  rw [Bool.not_eq_true', Bool.eq_false_iff]
  intro hx
  have hx2 := hasB_iff.1 hx
  unfold outW at hx2
  obtain ⟨j, hj, he⟩ := List.mem_map.1 hx2
  have hj2 : j ≤ k := by have := List.mem_range.1 hj; omega
  rw [hat j (by omega)] at he
  exact atW_ne h (show ids.length - (k + 1) < ids.length - j by omega) (by omega) he.symm
theorem rev_end (hf : ∀ f ∈ fs, fibB n f = true) (h : rtB n fs s ids = true) : atW fs (atW fs s ids ids.length) ids.reverse ids.reverse.length = s := by
  rw [List.length_reverse, rev_at hf h _ (Nat.le_refl _), Nat.sub_self]; rfl
theorem lenR_rev : ∀ ids : List Int, lenR fs ids.reverse = lenR fs ids := by
  intro ids
  induction ids with
  | nil => rfl
  | cons x l ih =>
    rw [List.reverse_cons, lenR_app, ih, Int.add_comm, ← lenR_app]; rfl
theorem join_apart (hf : ∀ f ∈ fs, fibB n f = true) {a b : List Int} (h : rtB n fs s (a ++ b) = true) : comL a b = [] := by
  rw [List.eq_nil_iff_forall_not_mem]
  intro x hx
  obtain ⟨ha, hb⟩ := ((comL_asc a b).2 x).1 hx
  obtain ⟨p, hp⟩ := List.getElem?_of_mem ha
  obtain ⟨q, hq⟩ := List.getElem?_of_mem hb
  have hpl := (List.getElem?_eq_some_iff.1 hp).1
  refine rt_once hf h (u := p) (v := a.length + q) (x := x) (by omega) ?_ ?_
  · rw [List.getElem?_append_left hpl]; exact hp
  · rw [List.getElem?_append_right (by omega), show a.length + q - a.length = q by omega]; exact hq
end
end Go.Proofs.YtjfafhehpfjofaaGreat
/- l4Pair, l4All, AllRoutes of the reference, walked. Conditions: none. By alls.py. -/
namespace Go.Proofs.YtjfafhehpfjofaaGreat
open Go.RowKit
/-- All routes sorted, if there are few enough. -/
def alL (fs : List Fib) (n s to : Nat) : List (List Int) := if (rbL fs n s to).length ≤ 200 then srtR fs (s : Int) (rbL fs n s to) else []
def alB (fs : List Fib) (n s to : Nat) : Bool := decide ((rbL fs n s to).length ≤ 200)
def arB (xs : List ByteArray) (fs : List Fib) (f t : Int) : Bool := mcB xs fs f t && alB fs xs.length f.toNat t.toNat
def arL (xs : List ByteArray) (fs : List Fib) (f t : Int) : List (Int × List Int) := if mcB xs fs f t then (alL fs xs.length f.toNat t.toNat).map fun r => (f, r) else []
theorem arL_parts {xs : List ByteArray} {fs : List Fib} {f t : Int} : (arL xs fs f t).length ≤ 200 ∧ ∀ r ∈ arL xs fs f t, r.2.length ≤ 8 := by
  unfold arL
  cases g : mcB xs fs f t
  · exact ⟨by simp, fun r hr => by cases hr⟩
  · have hb := goodB_bd (mcB_parts g).1
    refine ⟨?_, fun r hr => ?_⟩
    · rw [if_pos rfl, List.length_map]
      unfold alL
      split
      · rw [(srtR_ok _).2.length_eq]; assumption
      · simp
    · rw [if_pos rfl] at hr
      obtain ⟨q, hq, rfl⟩ := List.mem_map.1 hr
      unfold alL at hq
      split at hq
      · have := (rbL_ok q ((srtR_ok _).2.mem_iff.1 hq)).1
        simp only; omega
      · cases hq
theorem sum_le : ∀ (l : List (Int × List Int)), (∀ r ∈ l, r.2.length ≤ 8) → (l.map fun r => 1 + r.2.length).sum ≤ 9 * l.length := by
  intro l
  induction l with
  | nil => intro _; simp
  | cons r l ih =>
    intro h
    have h1 := ih fun x hx => h x (List.mem_cons_of_mem _ hx)
    have h2 := h r List.mem_cons_self
    simp only [List.map_cons, List.sum_cons, List.length_cons]
    omega
theorem off_small {l : List (Int × List Int)} (h : l.length ≤ 200 ∧ ∀ r ∈ l, r.2.length ≤ 8) : offR 1 l l.length ≤ 1099511627776 := by
  unfold offR
  rw [List.take_length]
  have := sum_le l h.2
  have := h.1
  omega
theorem Led.recopy {w0 w : World} {base b2 : Nat} {V V2 : Value} {ss : List (Int × Sl)} {rows : List (Int × List Int)} {R : List Thing} (h : Led w0 w (tOwns elRt b2 32 V2 ss :: tRS base V ss rows :: R)) (hb2 : base ≤ b2) : Led w0 w (tRS base V2 ss rows :: R) := by
  have hO : OwnsRS w base V ss rows := h.get 1 rfl
  have hN : Owns elRt w b2 32 V2 ss := h.get 0 rfl
  have h3 : Led w0 w (tOwns elRt b2 32 V2 ss :: tRS base V ss rows :: tOwns elInt 0 3 (.slice none 0 0) [] :: R) := (h.nilS elInt 3 0).front (P := [_, _, _]) (R := R) [1, 2, 0] (by decide) rfl
  refine h3.fuse3 (fun k hk => ?_) ⟨hN.base hb2, hO.2.1, hO.2.2.1, hO.2.2.2⟩
  rcases hk with hk | hk
  · exact .inl hk
  · exact .inr (.inl (.inr hk))
theorem Led.nilRS {w0 w : World} {L : List Thing} (h : Led w0 w L) (b0 : Nat) : Led w0 w (tRS b0 (.slice none 0 0) [] [] :: L) :=
  h.put (Below.refl _ _) (tRS b0 (.slice none 0 0) [] []) (fun b e => by
    rcases e with e | ⟨i, s, h1, _⟩
    · cases e
    · simp at h1) (OwnsRS.nil _ _)
theorem rfL_whole {fs : List Fib} {n s to : Nat} (h : s ≠ to) : ((rfL fs s to n s [s] [] []).length ≤ 200 ∧ rfL fs s to n s [s] [] [] = alL fs n s to ∧ alB fs n s to = true) ∨ (200 < (rfL fs s to n s [s] [] []).length ∧ alL fs n s to = [] ∧ alB fs n s to = false) := by
  have hr : rbL fs n s to = dfsL fs.length to (nxF fs) n s [s] [] := by unfold rbL; rw [if_neg h]; rfl
  rcases refL_all (m := fs.length) (to := to) (M := 200) (nx := nxF fs) (ins := insR fs (s : Int)) (fun l r => insR_len l r) n s [s] [] with ⟨h1, h2⟩ | ⟨h1, h2⟩
  · refine .inl ⟨?_, ?_, ?_⟩
    · unfold rfL
      rw [h1, ins_foldl (fun l r => insR_len l r)]
      simpa using h2
    · unfold rfL alL srtR
      rw [h1, hr, if_pos h2]
    · unfold alB; rw [hr]; exact decide_eq_true h2
  · refine .inr ⟨h1, ?_, ?_⟩
    · unfold alL; rw [hr, if_neg (by omega)]
    · unfold alB; rw [hr]; exact decide_eq_false (by omega)
section
variable {n c m d : Nat} {A A' : Option Addr} {xs : List ByteArray} {fs : List Fib}
set_option maxHeartbeats 2000000 in
set_option maxRecDepth 100000 in
theorem l4Pair_any (f t : Int) (w : World) (h : NetIs w A n c A' m d xs fs) :
    Calls Tryz.prog 20 #[.agg #[.slice A n c, .slice A' m d], .int .i64 f, .int .i64 t] w fun e w' => e = .returned (.bool (mcB xs fs f t)) ∧ Below w.heap.size w w' := by
  have hS := (Led.nil w).blk_ w.heap.size rfl 27 #[.slice A n c, .slice A' m d]
  have hn := h.nle
  have HK : Hid (mcB xs fs f t = (((goodB xs fs && inB 0 ((n : Int) - 1) f) && inB 0 ((n : Int) - 1) t) && !(f == t))) := by unfold Hid mcB; rw [h.xlen]
  have iw : IntKind.i64.wrap ((n : Int) - 1) = (n : Int) - 1 := IntWalk.i64_in _ (by omega)
  rw [HK.out]
  clear HK
  cases g : goodB xs fs
  · go_enter Tryz.func20, Tryz.ntmps20
    go_wp2_with fail
    refine (goodN _ (h.grow hS.bl)).mono ?_
    rintro e w1 ⟨rfl, hb⟩
    rw [g]
    go_wp2_with fail
    go_ret
    exact ⟨rfl, bl_then hS.bl hb⟩
  · cases g2 : inB 0 ((n : Int) - 1) f
    · go_enter Tryz.func20, Tryz.ntmps20
      go_wp2_with fail
      refine (goodN _ (h.grow hS.bl)).mono ?_
      rintro e w1 ⟨rfl, hb⟩
      rw [g]
      replace hS := hS.step hb
      have q0 := hS.cell 0 0 rfl rfl
      clear hb
      go_wp2_with fail
      refine (l1In_any _ _ _ _).mono ?_
      rintro e w3 ⟨rfl, rfl⟩
      rw [g2]
      go_wp2_with fail
      go_ret
      exact ⟨rfl, hS.bl⟩
    · cases g3 : inB 0 ((n : Int) - 1) t
      · go_enter Tryz.func20, Tryz.ntmps20
        go_wp2_with fail
        refine (goodN _ (h.grow hS.bl)).mono ?_
        rintro e w1 ⟨rfl, hb⟩
        rw [g]
        replace hS := hS.step hb
        have q0 := hS.cell 0 0 rfl rfl
        clear hb
        go_wp2_with fail
        refine (l1In_any _ _ _ _).mono ?_
        rintro e w3 ⟨rfl, rfl⟩
        rw [g2]
        go_wp2_with fail
        refine (l1In_any _ _ _ _).mono ?_
        rintro e w3 ⟨rfl, rfl⟩
        rw [g3]
        go_wp2_with fail
        go_ret
        exact ⟨rfl, hS.bl⟩
      · go_enter Tryz.func20, Tryz.ntmps20
        go_wp2_with fail
        refine (goodN _ (h.grow hS.bl)).mono ?_
        rintro e w1 ⟨rfl, hb⟩
        rw [g]
        replace hS := hS.step hb
        have q0 := hS.cell 0 0 rfl rfl
        clear hb
        go_wp2_with fail
        refine (l1In_any _ _ _ _).mono ?_
        rintro e w3 ⟨rfl, rfl⟩
        rw [g2]
        go_wp2_with fail
        refine (l1In_any _ _ _ _).mono ?_
        rintro e w3 ⟨rfl, rfl⟩
        rw [g3]
        go_wp2_with fail
        go_ret
        exact ⟨by cases hft : (f == t) <;> simp_all [bne], hS.bl⟩
end
end Go.Proofs.YtjfafhehpfjofaaGreat
/- AllRoutes of the program, walked. Conditions: none. By alli.py. -/
namespace Go.Proofs.YtjfafhehpfjofaaGreat
open Go.RowKit
section
variable {n c m d : Nat} {A A' : Option Addr} {xs : List ByteArray} {fs : List Fib}
end
end Go.Proofs.YtjfafhehpfjofaaGreat
/- slices.IndexFunc over routes, firstRoute, walked. Conditions: as each states. By fst.py. -/
namespace Go.Proofs.YtjfafhehpfjofaaGreat
open Go.RowKit
theorem findPF_find {α : Type} (p : α → Bool) : ∀ (l : List α) (k0 : Nat), (∃ k x, findPF p l k0 = ((k0 + k : Nat) : Int) ∧ l[k]? = some x ∧ l.find? p = some x) ∨ (findPF p l k0 = -1 ∧ l.find? p = none) := by
  intro l
  induction l with
  | nil => intro k0; exact .inr ⟨rfl, rfl⟩
  | cons y l ih =>
    intro k0
    unfold findPF
    cases g : p y
    · rcases ih (k0 + 1) with ⟨k, x, h1, h2, h3⟩ | ⟨h1, h2⟩
      · refine .inl ⟨k + 1, x, ?_, by simpa using h2, by rw [List.find?_cons, g]; exact h3⟩
        simp only [Bool.false_eq_true, if_false]
        rw [h1]; congr 1; omega
      · exact .inr ⟨by simpa using h1, by rw [List.find?_cons, g]; exact h2⟩
    · exact .inl ⟨0, y, by simp, rfl, by rw [List.find?_cons, g]⟩
theorem findP_find {α : Type} (p : α → Bool) (l : List α) : (∃ (k : Nat) (x : α), findP p l = (k : Int) ∧ l[k]? = some x ∧ l.find? p = some x) ∨ (findP p l = -1 ∧ l.find? p = none) := by
  rcases findPF_find p l 0 with ⟨k, x, h1, h2, h3⟩ | h
  · exact .inl ⟨k, x, by unfold findP; rw [h1]; simp, h2, h3⟩
  · exact .inr h
section
variable {n c : Nat} {A : Option Addr} {ss : List (Int × Sl)} {rows : List (Int × List Int)} {F : FuncId} {cap : Array Value}
set_option maxHeartbeats 1000000 in
set_option maxRecDepth 100000 in
theorem indexFuncRS_any (p : Int × List Int → Bool) (w : World) (hA : SeesRS w A n ss rows) (hn : n ≤ 1099511627776)
    (hcall : ∀ args wr, (callFunc F args).run Tryz.prog wr = .ok (.enter F args) wr)
    (hF : ∀ (i : Nat) s r w', ss[i]? = some s → rows[i]? = some r → Cls w w' → Calls Tryz.prog F (#[.agg #[.int .i64 s.1, .slice s.2.A s.2.n s.2.c]] ++ cap) w' fun e w2 => e = .returned (.bool (p r)) ∧ Below w'.heap.size w' w2) :
    Calls Tryz.prog 40 #[.slice A n c, .func (.func F) #[] cap] w fun e w' => e = .returned (.int .i64 (findP p rows)) ∧ Below w.heap.size w w' := by
  have HF := hid hF
  have hlr : rows.length = n := by rw [← hA.2.1]; exact hA.1.len
  have HLR := hid hlr
  clear hF hlr
  go_enter Tryz.func40, Tryz.ntmps40
  go_wp2
  go_loopw [8] (fun i wr => ∃ k : Nat, k ≤ n ∧ i = .int .i64 k ∧ Hid (noneP p rows k) ∧ Below w.heap.size w wr) (fun i _ => n - (intOf i).toNat)
  case atStart => exact ⟨0, Nat.zero_le _, rfl, noneP_zero _ _, Below.refl _ _⟩
  case round =>
    obtain ⟨k, hk, rfl, hno, hb⟩ := hrel
    by_cases hlt : k < n
    · obtain ⟨b, o, rfl, _, hc⟩ := hA.1.at_ hlt
      obtain ⟨x, hxk⟩ := get_of (k := k) HLR.out hlt
      obtain ⟨s, hsk⟩ := get_of (k := k) hA.1.len hlt
      have hcx := bl_cell hb (hc k s hsk 0 _ rfl)
      have hcy := bl_cell hb (hc k s hsk 1 _ rfl)
      simp only [elRt, Nat.add_zero, slV] at hcx hcy
      have HC := hid (HF.out k s x wr hsk hxk hb)
      clear hc
      go_wp2_with fail
      refine HC.out.mono ?_
      rintro e w' ⟨rfl, hb2⟩
      have hbb : Below w.heap.size w w' := bl_then hb hb2
      clear HC hcx hcy hb hb2
      by_cases hp : p x = true
      · have HR := hid (findP_at hno.out hxk hp)
        clear hno hxk
        rw [hp]
        go_wp2_with fail
        go_ret
        exact ⟨by rw [HR.out]; rfl, hbb⟩
      · have hp' : p x = false := by simpa using hp
        have HR := hid (noneP_succ hno.out hxk hp')
        clear hno hxk
        rw [hp']
        go_wp2_with fail
        exact ⟨⟨k + 1, by omega, by go_num, HR, hbb⟩, by simp [intOf]; omega⟩
    · have HN := hid (findP_none (p := p) HLR.out (by obtain rfl : k = n := (by omega); exact hno.out))
      clear hno
      go_wp2
      go_ret
      exact ⟨by rw [HN.out]; rfl, hb⟩
end
/-- The first of all routes that p holds. -/
def frO (fs : List Fib) (n s to : Nat) (p : List Int → Bool) : Option (List Int) := (srtR fs (s : Int) (rbL fs n s to)).find? p
theorem frO_ok {fs : List Fib} {n s to : Nat} {p : List Int → Bool} : (frL (frO fs n s to p)).length ≤ n ∧ ∀ x ∈ frL (frO fs n s to p), 0 ≤ x ∧ x < fs.length := by
  unfold frL
  cases h : frO fs n s to p with
  | none => exact ⟨Nat.zero_le _, fun x hx => by cases hx⟩
  | some r =>
    have h1 := List.mem_of_find?_eq_some (by unfold frO at h; exact h)
    exact rbL_ok r ((srtR_ok _).2.mem_iff.1 h1)
theorem find_rows {D : List (List Int)} {s : Int} {p : List Int → Bool} : (D.map fun r => (s, r)).find? (fun r => p r.2) = (D.find? p).map fun r => (s, r) := by
  rw [List.find?_map]
  rfl
section
variable {n c m d : Nat} {A A' : Option Addr} {xs : List ByteArray} {fs : List Fib} {F : FuncId} {cap : Array Value}
set_option maxHeartbeats 4000000 in
set_option maxRecDepth 100000 in
theorem firstRoute_any (p : List Int → Bool) (w : World) (h : NetIs w A n c A' m d xs fs) (g : goodB xs fs = true) (s to : Nat) (hs : s < n) (ht : to < n)
    (hcall : ∀ args wr, (callFunc F args).run Tryz.prog wr = .ok (.enter F args) wr)
    (hF : ∀ w' B (r : List Int) e, Cls w w' → r.length ≤ n → (∀ x ∈ r, 0 ≤ x ∧ x < fs.length) → r ∈ rbL fs n s to → r.length ≤ e → Sees elInt w' w'.heap.size B r.length r → Calls Tryz.prog F (#[.agg #[.int .i64 (s : Int), .slice B r.length e]] ++ cap) w' fun e w2 => e = .returned (.bool (p r)) ∧ Below w'.heap.size w' w2) :
    Calls Tryz.prog 17 #[.agg #[.slice A n c, .slice A' m d], .int .i64 (s : Int), .int .i64 (to : Int), .func (.func F) #[] cap] w fun e w' => ∃ R k, e = .returned (.tuple #[.agg #[.int .i64 (frS (frO fs n s to p) (s : Int)), .slice R (frL (frO fs n s to p)).length k], .bool (frO fs n s to p).isSome]) ∧ Owns elInt w' w.heap.size 3 (.slice R (frL (frO fs n s to p)).length k) (frL (frO fs n s to p)) ∧ Below w.heap.size w w' := by
  have hS := ((Led.nil w).blk_ w.heap.size rfl 27 #[.slice A n c, .slice A' m d]).blk_ (w.heap.size + 1) (by simp) 32 #[.int .i64 0, .slice none 0 0]
  obtain ⟨he, hn0, hn8, hm14⟩ := good_parts h g
  have hbl0 := hS.bl
  obtain ⟨o, ho⟩ : ∃ o, frO fs n s to p = o := ⟨_, rfl⟩
  have HFR := hid ho
  rw [ho]
  have HF := hid hF
  have HN := hid h
  have HLF := hid h.flen
  clear hF h ho
  go_enter Tryz.func17, Tryz.ntmps17
  go_wp2_with fail
  refine (routesBetween_any _ (HN.out.grow hbl0) g s to hs ht).mono ?_
  rintro e w2 ⟨v, ss, rows, rfl, hp, hpw, ho, hb2⟩
  have hrows := srtR_rows (D := rbL fs n s to) hpw hp
  obtain ⟨A2, c2, hv, _, _, _⟩ := ho.1.form
  subst hv
  have hlen : ss.length = (rbL fs n s to).length := by rw [ho.2.1, hrows, List.length_map]; exact (srtR_ok _).2.length_eq
  have hlen2 := rbL_len (fs := fs) (n := n) (s := s) (to := to) hn8 (by rw [HLF.out]; exact hm14)
  have HI := hid (indexFuncRS_any (c := c2) (cap := cap) (fun r => p r.2) w2 ho.sees (by omega) hcall (fun i s1 r w' h1 h2 hw' => by
    have hr : r ∈ rows := List.mem_of_getElem? h2
    obtain ⟨q, hq, hrq⟩ := List.mem_map.1 (hp.mem_iff.1 hr)
    obtain ⟨e1, ho2⟩ := ho.2.2.1 i s1 r h1 h2
    have e3 : r.1 = (s : Int) := by rw [← hrq]
    have e4 : r.2 = q := by rw [← hrq]
    obtain ⟨B, e5, hv, h5, _, hsee⟩ := (ho2.below hw').form
    unfold slV at hv
    injection hv with v1 v2 v3
    rw [e1, e3, v1, v2, v3]
    have hok := rbL_ok q hq
    rw [← e4] at hq hok
    exact HF.out w' B r.2 e5 ((bl_then hbl0 hb2).trans (hw'.mono (Nat.le_trans hbl0.size hb2.size))) hok.1 hok.2 hq h5 hsee))
  rw [hrows] at HI
  have hbl2 := bl_then hbl0 hb2
  have hS2 := hS.step hb2
  have HO := hid (hrows ▸ ho : OwnsRS w2 _ _ ss ((srtR fs (s : Int) (rbL fs n s to)).map fun r => ((s : Int), r)))
  have HP := hid hp
  clear hb2 hrows hpw ho hlen hp hS
  rcases findP_find (fun r : Int × List Int => p r.2) ((srtR fs (s : Int) (rbL fs n s to)).map fun r => ((s : Int), r)) with ⟨k, x, h1, h2, h3⟩ | ⟨h1, h2⟩
  · rw [h1] at HI
    rw [find_rows] at h3
    obtain ⟨q, hq, hqx⟩ := Option.map_eq_some_iff.1 h3
    have ho2 : o = some q := by rw [← HFR.out]; exact hq
    subst hqx
    have hkl : k < ss.length := by rw [HO.out.2.1]; exact (List.getElem?_eq_some_iff.1 h2).1
    obtain ⟨⟨s1, t1⟩, hsk⟩ : ∃ s1, ss[k]? = some s1 := ⟨ss[k], List.getElem?_eq_getElem hkl⟩
    obtain ⟨e1, how⟩ := HO.out.2.2.1 k (s1, t1) _ hsk h2
    simp only at e1 how
    subst e1
    obtain ⟨B, e5, hv, h5, _, _⟩ := how.form
    obtain ⟨tA, tn, tc⟩ := t1
    unfold slV at hv how
    injection hv with v1 v2 v3
    simp only at v1 v2 v3 how
    subst v1
    subst v2
    subst v3
    have HW := hid how
    have HH := hid (show frS o (s : Int) = (s : Int) ∧ frL o = q ∧ o.isSome = true by rw [ho2]; exact ⟨rfl, rfl, rfl⟩)
    clear h1 h2 h3 hq ho2 how HFR
    go_wp2_with fail
    refine HI.out.mono ?_
    rintro e w3 ⟨rfl, hb3⟩
    have hS3 := hS2.step hb3
    obtain ⟨gb, go, rfl, _, hc⟩ := (HO.out.below hb3).1.sees.at_ (k := k) hkl
    have f0 := hc k _ hsk 0 _ rfl
    have f1 := hc k _ hsk 1 _ rfl
    simp only [elRt, Nat.add_zero, slV] at f0 f1
    have q0 := hS3.cell 0 0 rfl rfl
    have q1 := hS3.cell 0 1 rfl rfl
    have z0 := hS3.frozen 0 0 rfl
    have z1 := hS3.frozen 0 1 rfl
    have hS4 := (hS3.set 0 rfl 0 (.int .i64 (s : Int))).set 0 rfl 1 (.slice tA q.length tc)
    have ik0 : ¬ ((k : Int) < 0) := by omega
    have ik1 : (0 : Int) ≤ (k : Int) := by omega
    have ik2 : (k : Int) < (ss.length : Int) := by omega
    have HZ := hid (bl_then hbl2 hb3)
    have HW3 := hid (HW.out.below hb3)
    have HS4 := hid hS4
    clear hc hS3 hS4 hS2 HI HO HF hb3 hsk hbl0 hbl2 HP
    go_wp2_with fail
    exact bodyPost_ret (v := .tuple #[.agg #[.int .i64 (s : Int), .slice tA q.length tc], .bool true]) (by simp [results, Tryz.results17, go_sem, q0, q1]) rfl
      ⟨tA, tc, by rw [HH.out.1, HH.out.2.1, HH.out.2.2], by rw [HH.out.2.1]; exact ((HW3.out.far (p := ⟨w.heap.size + 1, 0, none⟩) (by simp) _).far (p := ⟨w.heap.size + 1, 1, none⟩) (by simp) _).base (by simp; omega), HS4.out.bl⟩
  · rw [h1] at HI
    rw [find_rows] at h2
    have ho2 : o = none := by rw [← HFR.out]; exact Option.map_eq_none_iff.1 h2
    have HH := hid (show frS o (s : Int) = 0 ∧ frL o = [] ∧ o.isSome = false by rw [ho2]; exact ⟨rfl, rfl, rfl⟩)
    clear h1 h2 ho2 HFR
    go_wp2_with fail
    refine HI.out.mono ?_
    rintro e w3 ⟨rfl, hb3⟩
    have hS3 := hS2.step hb3
    have q0 := hS3.cell 0 0 rfl rfl
    have q1 := hS3.cell 0 1 rfl rfl
    have z0 := hS3.frozen 0 0 rfl
    have z1 := hS3.frozen 0 1 rfl
    have HS4 := hid ((hS3.set 0 rfl 0 (.int .i64 0)).set 0 rfl 1 (.slice none 0 0))
    clear hS3 hS2 HI HO HF hb3 hbl0 hbl2 HP
    go_wp2_with fail
    exact bodyPost_ret (v := .tuple #[.agg #[.int .i64 0, .slice none 0 0], .bool false]) (by simp [results, Tryz.results17, go_sem, q0, q1]) rfl
      ⟨none, 0, by rw [HH.out.1, HH.out.2.1, HH.out.2.2]; rfl, by rw [HH.out.2.1]; exact World.ownsRow_nil _ _ _ _, HS4.out.bl⟩
/-- ShortestRoute's answer. -/
def shB (xs : List ByteArray) (fs : List Fib) (f t : Int) : Bool := ((goodB xs fs && inB 0 ((xs.length : Int) - 1) f) && inB 0 ((xs.length : Int) - 1) t)
def shO (xs : List ByteArray) (fs : List Fib) (f t : Int) (p : List Int → Bool) : Option (List Int) := if mcB xs fs f t then frO fs xs.length f.toNat t.toNat p else none
theorem shO_len {xs : List ByteArray} {fs : List Fib} {f t : Int} {p : List Int → Bool} : (frL (shO xs fs f t p)).length ≤ 8 := by
  unfold shO
  cases g : mcB xs fs f t
  · exact Nat.zero_le _
  · have := (frO_ok (fs := fs) (n := xs.length) (s := f.toNat) (to := t.toNat) (p := p)).1
    have := goodB_bd (mcB_parts g).1
    rw [if_pos rfl]; omega
theorem shO_same {xs : List ByteArray} {fs : List Fib} {f t : Nat} {p : List Int → Bool} (h : shB xs fs (f : Int) (t : Int) = true) : frO fs xs.length f t p = shO xs fs (f : Int) (t : Int) p := by
  unfold shO
  cases g : mcB xs fs (f : Int) (t : Int)
  · have e : (f : Int) = (t : Int) := by
      unfold mcB at g
      unfold shB at h
      rw [h] at g
      simpa using g
    have e2 : f = t := by omega
    subst e2
    unfold frO rbL
    rw [if_pos rfl]
    rfl
  · rfl
end
end Go.Proofs.YtjfafhehpfjofaaGreat
/- Distances are the lengths of shortest routes, in plain Lean. Conditions: as each states. -/
namespace Go.Proofs.YtjfafhehpfjofaaGreat
open Go.RowKit
section
variable {q : Nat → Bool} {fs : List Fib} {n s : Nat}
/-- Each node that is reached is reached from another one that is nearer. -/
def predP (q : Nat → Bool) (fs : List Fib) (n s : Nat) (D : List Int) : Prop := ∀ v, v < n → v ≠ s → 0 ≤ valL D v → ∃ j, j < 2 * fs.length ∧ q (j / 2) = false ∧ arcV fs j = v ∧ 0 ≤ valL D (arcU fs j) ∧ valL D (arcU fs j) + arcLn fs j ≤ valL D v
theorem pred_to {D : List Int} (hD : D.length = n) (he : endsB n fs) (hl : lensB fs) (h : predP q fs n s D) : ∀ j, j ≤ 2 * fs.length → predP q fs n s (dstTo q fs D j) := by
  intro j
  induction j with
  | zero => intro _; exact h
  | succ j ih =>
    intro hj
    have ih := ih (by omega)
    cases hq : q (j / 2)
    · rw [dstTo_no hq]
      obtain ⟨hu, hv, huv⟩ := arc_in he (j := j) (by omega)
      have hlen : (dstTo q fs D j).length = n := by rw [dstTo_len]; exact hD
      have hval := fun w => relax_val (u := arcU fs j) (v := arcV fs j) (w := w) (l := arcLn fs j) (D := dstTo q fs D j) (by omega)
      intro w hw hws h0
      rw [hval w] at h0
      by_cases hc : w = arcV fs j ∧ canB (arcU fs j) (arcV fs j) (arcLn fs j) (dstTo q fs D j) = true
      · have hcan := canB_iff.1 hc.2
        refine ⟨j, by omega, hq, hc.1.symm, ?_, ?_⟩
        · rw [hval, if_neg (fun e => huv e.1)]; exact hcan.1
        · rw [hval w, if_pos hc, hval (arcU fs j), if_neg (fun e => huv e.1)]; exact Int.le_refl _
      · rw [if_neg hc] at h0
        obtain ⟨i, hi, hqi, hvi, h1, h2⟩ := ih w hw hws h0
        refine ⟨i, hi, hqi, hvi, ?_, ?_⟩
        · rw [hval]
          split
          · rename_i hx
            have := (canB_iff.1 hx.2).1
            have := arc_len hl (j := j) (by omega)
            omega
          · exact h1
        · rw [hval w, if_neg hc, hval (arcU fs i)]
          split
          · rename_i hx
            have h3 := canB_iff.1 hx.2
            rw [hx.1] at h1 h2
            omega
          · exact h2
    · rw [dstTo_succ, hq, if_pos rfl]; exact ih
theorem pred_dist (he : endsB n fs) (hl : lensB fs) (hs : s < n) : predP q fs n s (distL q fs n s) := by
  have key : ∀ k, predP q fs n s (dstRnd q fs n s k) := by
    intro k
    induction k with
    | zero =>
      intro v hv hvs h0
      have h0 : 0 ≤ valL (dst0 n s) v := h0
      rw [dst0_val hs v hv, if_neg hvs] at h0
      omega
    | succ k ih => exact pred_to (dstRnd_len k) he hl ih _ (Nat.le_refl _)
  exact key n
theorem fib_at {i : Nat} (hi : i < fs.length) : fs[i]? = some (fibD fs i) := by
  obtain ⟨f, hf⟩ := get_of (k := i) (l := fs) rfl hi
  rw [hf, show fibD fs i = f from getD_of hf]
/-- The arc into v as a step over a fiber. -/
theorem pred_step (he : endsB n fs) (hl : lensB fs) (hs : s < n) {v : Nat} (hv : v < n) (hvs : v ≠ s) (h0 : 0 ≤ valL (distL q fs n s) v) :
    ∃ i u, i < fs.length ∧ q i = false ∧ u < n ∧ otherF (fibD fs i) (u : Int) = (v : Int) ∧ 0 ≤ valL (distL q fs n s) u ∧ valL (distL q fs n s) u + (fibD fs i).len = valL (distL q fs n s) v := by
  obtain ⟨j, hj, hq, hjv, h1, h2⟩ := pred_dist (q := q) he hl hs v hv hvs h0
  obtain ⟨hu, _, _⟩ := arc_in he hj
  obtain ⟨e0, e1, e2⟩ := he (j / 2) (by omega)
  have hstep : otherF (fibD fs (j / 2)) (arcU fs j : Int) = (v : Int) := by
    unfold arcU arcV at *
    unfold otherF
    by_cases hp : j % 2 = 0
    · rw [if_pos hp] at hjv ⊢
      rw [if_pos (by omega)]; omega
    · rw [if_neg hp] at hjv ⊢
      rw [if_neg (by omega), if_pos (by omega)]; omega
  have hback : otherF (fibD fs (j / 2)) (v : Int) = (arcU fs j : Int) := by
    have := otherF_back (f := fibD fs (j / 2)) (v := (arcU fs j : Int)) ⟨e0, e1⟩ (by rw [hstep]; omega)
    rw [hstep] at this; exact this
  have h3 := dist_arc (q := q) he hl hs (i := j / 2) (by omega) hq (nxF_some hback) h1
  have hL : arcLn fs j = (fibD fs (j / 2)).len := rfl
  refine ⟨j / 2, arcU fs j, by omega, hq, hu, hstep, h1, ?_⟩
  omega
/-- Along a fiber distances differ by its length at most. -/
theorem dist_fib (he : endsB n fs) (hl : lensB fs) (hs : s < n) {i : Nat} (hi : i < fs.length) (hq : q i = false) :
    (valL (distL q fs n s) (fibD fs i).a.toNat < 0 ↔ valL (distL q fs n s) (fibD fs i).b.toNat < 0) ∧
    (0 ≤ valL (distL q fs n s) (fibD fs i).a.toNat → valL (distL q fs n s) (fibD fs i).a.toNat - valL (distL q fs n s) (fibD fs i).b.toNat ≤ (fibD fs i).len ∧ valL (distL q fs n s) (fibD fs i).b.toNat - valL (distL q fs n s) (fibD fs i).a.toNat ≤ (fibD fs i).len) := by
  obtain ⟨e0, e1, e2⟩ := he i hi
  have sa : otherF (fibD fs i) (((fibD fs i).a.toNat : Nat) : Int) = (((fibD fs i).b.toNat : Nat) : Int) := by unfold otherF; rw [if_pos (by omega)]; omega
  have sb : otherF (fibD fs i) (((fibD fs i).b.toNat : Nat) : Int) = (((fibD fs i).a.toNat : Nat) : Int) := by unfold otherF; rw [if_neg (by omega), if_pos (by omega)]; omega
  have ha := fun h => dist_arc (q := q) he hl hs hi hq (nxF_some sa) h
  have hb := fun h => dist_arc (q := q) he hl hs hi hq (nxF_some sb) h
  constructor
  · constructor
    · intro h; apply Classical.byContradiction; intro h2; have := ha (by omega); omega
    · intro h; apply Classical.byContradiction; intro h2; have := hb (by omega); omega
  · intro h
    have h1 := hb h
    have h2 := ha h1.1
    omega
/-- No route is shorter than the distance. -/
theorem dist_route (hf : ∀ f ∈ fs, fibB n f = true) (he : endsB n fs) (hl : lensB fs) (hs : s < n) {ids : List Int} (h : rtB n fs (s : Int) ids = true) : ∀ k, k ≤ ids.length → 0 ≤ valL (distL (goneF []) fs n s) (atW fs (s : Int) ids k).toNat ∧ valL (distL (goneF []) fs n s) (atW fs (s : Int) ids k).toNat ≤ rlTo fs ids k := by
  intro k
  induction k with
  | zero =>
    intro _
    have := dist_src (q := goneF []) he hl hs
    show 0 ≤ valL _ ((s : Int)).toNat ∧ valL _ ((s : Int)).toNat ≤ _
    rw [Int.toNat_natCast, rlTo_zero]; omega
  | succ k ih =>
    intro hk
    have ih := ih (by omega)
    obtain ⟨i, f, h1, h2, h3, hab, h4, h5⟩ := rt_step hf h (j := k) (by omega)
    have hr := atW_range hf h (k := k) (by omega)
    have hr1 := atW_range hf h (k := k + 1) (by omega)
    have hil : i.toNat < fs.length := (List.getElem?_eq_some_iff.1 h2).1
    have hfd : fibD fs i.toNat = f := getD_of h2
    have hb : otherF (fibD fs i.toNat) (((atW fs (s : Int) ids (k + 1)).toNat : Nat) : Int) = (((atW fs (s : Int) ids k).toNat : Nat) : Int) := by
      rw [hfd, show (((atW fs (s : Int) ids (k + 1)).toNat : Nat) : Int) = atW fs (s : Int) ids (k + 1) by omega, h4, otherF_back hab h5]; omega
    have h6 := dist_arc (q := goneF []) he hl hs hil rfl (nxF_some hb) ih.1
    rw [rlTo_succ h1 h2]
    rw [hfd] at h6
    omega
/-- A path of steps, with its lengths the distances. -/
def pathP (fs : List Fib) (n s : Nat) (ids : List Int) (v : Nat) : Prop :=
  allTo (okW fs.length fs (s : Int) ids) ids.length ∧ atW fs (s : Int) ids ids.length = (v : Int) ∧ ∀ k, k ≤ ids.length → valL (distL (goneF []) fs n s) (atW fs (s : Int) ids k).toNat = rlTo fs ids k
theorem rlTo_app (a b : List Int) {k : Nat} (h : k ≤ a.length) : rlTo fs (a ++ b) k = rlTo fs a k := by
  unfold rlTo
  rw [List.take_append_of_le_length h]
theorem rlTo_up (hl : lensB fs) {ids : List Int} (hin : ∀ x ∈ ids, 0 ≤ x ∧ x < fs.length) {j : Nat} : ∀ {k : Nat}, j < k → k ≤ ids.length → rlTo fs ids j < rlTo fs ids k := by
  intro k
  induction k with
  | zero => intro h; omega
  | succ k ih =>
    intro hjk hk
    obtain ⟨x, hx⟩ := get_of (k := k) (l := ids) rfl (by omega)
    have hxb := hin x (List.mem_of_getElem? hx)
    have hf := fib_at (fs := fs) (i := x.toNat) (by omega)
    have h1 := hl x.toNat (by omega)
    rw [rlTo_succ hx hf]
    rcases Nat.lt_or_ge j k with h2 | h2
    · have := ih h2 (by omega); omega
    · obtain rfl : j = k := by omega
      omega
theorem okW_in {m : Nat} {s : Int} {ids : List Int} (h : allTo (okW m fs s ids) ids.length) : ∀ x ∈ ids, 0 ≤ x ∧ x < m := by
  intro x hx
  obtain ⟨k, hk⟩ := List.getElem?_of_mem hx
  have h1 := (okW_parts (h k (List.getElem?_eq_some_iff.1 hk).1)).1
  rw [getD_of hk] at h1
  exact inB_idx h1
theorem path_to (he : endsB n fs) (hl : lensB fs) (hs : s < n) : ∀ (d v : Nat), v < n → 0 ≤ valL (distL (goneF []) fs n s) v → (valL (distL (goneF []) fs n s) v).toNat ≤ d → ∃ ids, pathP fs n s ids v := by
  intro d
  induction d with
  | zero =>
    intro v hv h0 hd
    by_cases hvs : v = s
    · subst hvs
      have h1 := dist_src (q := goneF []) he hl hs
      exact ⟨[], fun k hk => by simp at hk, rfl, fun k hk => by
        obtain rfl : k = 0 := by simpa using hk
        show valL _ ((v : Int)).toNat = _
        rw [Int.toNat_natCast, rlTo_zero]; omega⟩
    · have := (distL_pos (q := goneF []) he hl hs hv).2 hvs
      omega
  | succ d ih =>
    intro v hv h0 hd
    by_cases hvs : v = s
    · subst hvs
      have h1 := dist_src (q := goneF []) he hl hs
      exact ⟨[], fun k hk => by simp at hk, rfl, fun k hk => by
        obtain rfl : k = 0 := by simpa using hk
        show valL _ ((v : Int)).toNat = _
        rw [Int.toNat_natCast, rlTo_zero]; omega⟩
    · obtain ⟨i, u, hi, _, hu, hstep, hu0, hsum⟩ := pred_step (q := goneF []) he hl hs hv hvs h0
      have hli := hl i hi
      obtain ⟨ids, hok, hend, hdist⟩ := ih u hu hu0 (by omega)
      have hin := okW_in hok
      have hat : atW fs (s : Int) (ids ++ [(i : Int)]) (ids.length + 1) = (v : Int) := by
        have h1 : (ids ++ [(i : Int)])[ids.length]? = some (i : Int) := by rw [List.getElem?_append_right (Nat.le_refl _), Nat.sub_self]; rfl
        rw [atW_succ h1 (by rw [Int.toNat_natCast]; exact fib_at hi), atW_app _ _ _ (Nat.le_refl _), hend]
        exact hstep
      have hdist2 : ∀ k, k ≤ ids.length + 1 → valL (distL (goneF []) fs n s) (atW fs (s : Int) (ids ++ [(i : Int)]) k).toNat = rlTo fs (ids ++ [(i : Int)]) k := fun k hk => by
        rcases Nat.lt_or_ge ids.length k with h1 | h1
        · obtain rfl : k = ids.length + 1 := by omega
          have h2 := hdist ids.length (Nat.le_refl _)
          rw [hend, Int.toNat_natCast] at h2
          have h3 : (ids ++ [(i : Int)])[ids.length]? = some (i : Int) := by rw [List.getElem?_append_right (Nat.le_refl _), Nat.sub_self]; rfl
          rw [hat, Int.toNat_natCast, rlTo_succ h3 (by rw [Int.toNat_natCast]; exact fib_at hi), rlTo_app _ _ (Nat.le_refl _), ← h2]
          omega
        · rw [atW_app _ _ _ h1, rlTo_app _ _ h1]; exact hdist k h1
      have hin2 : ∀ x ∈ ids ++ [(i : Int)], 0 ≤ x ∧ x < fs.length := fun x hx => by
        rcases List.mem_append.1 hx with hx | hx
        · exact hin x hx
        · simp at hx; subst hx; omega
      refine ⟨ids ++ [(i : Int)], fun k hk => ?_, ?_, ?_⟩
      · rw [List.length_append] at hk
        simp at hk
        rcases Nat.lt_or_ge k ids.length with h1 | h1
        · rw [okW_app _ _ h1]; exact hok k h1
        · obtain rfl : k = ids.length := by omega
          unfold okW
          rw [Bool.and_eq_true, Bool.and_eq_true, hat]
          refine ⟨?_, by simp, ?_⟩
          · have h3 : (ids ++ [(i : Int)])[ids.length]? = some (i : Int) := by rw [List.getElem?_append_right (Nat.le_refl _), Nat.sub_self]; rfl
            rw [getD_of h3]; unfold inB; simp; omega
          · rw [Bool.not_eq_true', Bool.eq_false_iff]
            intro hx
            have hx2 := hasB_iff.1 hx
            unfold outW at hx2
            obtain ⟨j, hj, hje⟩ := List.mem_map.1 hx2
            have hj2 : j ≤ ids.length := by have := List.mem_range.1 hj; omega
            have h5 := hdist2 j (by omega)
            have h6 := hdist2 (ids.length + 1) (Nat.le_refl _)
            rw [hje] at h5
            rw [hat] at h6
            have h7 := rlTo_up hl hin2 (j := j) (k := ids.length + 1) (by omega) (by rw [List.length_append]; exact Nat.le_refl _)
            omega
      · rw [List.length_append]; exact hat
      · intro k hk
        rw [List.length_append] at hk
        exact hdist2 k hk
/-- The search finds every route. -/
theorem rts_all {to : Nat} {s : Int} : ∀ (e : List Int) (k v : Nat) (seen : List Nat) (ids : List Int), e.length < k → atW fs s ids ids.length = (v : Int) → allTo (okW fs.length fs s (ids ++ e)) (ids ++ e).length →
    (∀ u : Nat, u ∈ seen ↔ (u : Int) ∈ outW fs s ids ids.length) → atW fs s (ids ++ e) (ids ++ e).length = (to : Int) → (∀ j, j < (ids ++ e).length → atW fs s (ids ++ e) j ≠ (to : Int)) → ids ++ e ∈ rtsL fs to k v seen ids := by
  intro e
  induction e with
  | nil =>
    intro k v seen ids hk hv _ _ hend _
    rw [List.append_nil] at hend ⊢
    have : v = to := by rw [hv] at hend; omega
    subst this
    obtain ⟨k', rfl⟩ : ∃ k', k = k' + 1 := ⟨k - 1, by simp at hk; omega⟩
    rw [rtsL_end]; exact List.mem_singleton.2 rfl
  | cons i e ih =>
    intro k v seen ids hk hv hok hseen hend hno
    obtain ⟨k', rfl⟩ : ∃ k', k = k' + 1 := ⟨k - 1, by simp at hk; omega⟩
    have hlen : (ids ++ i :: e).length = ids.length + 1 + e.length := by simp; omega
    have hvt : v ≠ to := fun h => by
      have := hno ids.length (by omega)
      rw [atW_app _ _ _ (Nat.le_refl _), hv, h] at this
      exact this rfl
    have h1 := okW_parts (hok ids.length (by omega))
    have hi : (ids ++ i :: e)[ids.length]? = some i := by rw [List.getElem?_append_right (Nat.le_refl _), Nat.sub_self]; rfl
    rw [getD_of hi] at h1
    have hib := inB_idx h1.1
    obtain ⟨j, rfl⟩ : ∃ j : Nat, i = (j : Int) := ⟨i.toNat, by omega⟩
    have hjl : j < fs.length := by omega
    have hat := atW_succ (s := s) hi (by rw [Int.toNat_natCast]; exact fib_at hjl)
    rw [atW_app _ _ _ (Nat.le_refl _), hv] at hat
    obtain ⟨u, hu⟩ : ∃ u : Nat, atW fs s (ids ++ (j : Int) :: e) (ids.length + 1) = (u : Int) := ⟨(atW fs s (ids ++ (j : Int) :: e) (ids.length + 1)).toNat, by omega⟩
    rw [hu] at hat h1
    have hns : ¬ u ∈ seen := fun h => by
      have h2 := (hseen u).1 h
      have h3 := h1.2.2
      rw [outW_app _ _ (Nat.le_refl _)] at h3
      rw [hasB_iff.2 h2] at h3
      cases h3
    have e2 : ids ++ (j : Int) :: e = (ids ++ [(j : Int)]) ++ e := by simp
    have hat2 : atW fs s (ids ++ [(j : Int)]) (ids ++ [(j : Int)]).length = (u : Int) := by
      rw [e2] at hu
      rw [List.length_append, ← hu]
      exact (atW_app (ids ++ [(j : Int)]) e (ids.length + 1) (by simp)).symm
    have hmem : ids ++ (j : Int) :: e ∈ rtsL fs to k' u (u :: seen) (ids ++ [(j : Int)]) := by
      rw [e2]
      rw [e2] at hok hend hno
      refine ih k' u (u :: seen) (ids ++ [(j : Int)]) (by simp at hk; omega) hat2 hok (fun x => ?_) hend hno
      rw [List.length_append]
      show _ ↔ (x : Int) ∈ outW fs s (ids ++ [(j : Int)]) (ids.length + 1)
      rw [List.mem_cons, outW_succ, List.mem_append, outW_app _ _ (Nat.le_refl _), hseen x]
      rw [List.length_append] at hat2
      have hat3 : atW fs s (ids ++ [(j : Int)]) (ids.length + 1) = (u : Int) := hat2
      rw [hat3, List.mem_singleton]
      constructor
      · rintro (h | h)
        · exact .inr (by rw [h])
        · exact .inl h
      · rintro (h | h)
        · exact .inr h
        · exact .inl (by omega)
    rw [rtsL_on hvt]
    unfold rtsJ
    rw [List.mem_flatMap]
    exact ⟨j, List.mem_range.2 hjl, by rw [rtsI_on hat.symm hns]; exact hmem⟩
theorem rbL_all {to : Nat} (hf : ∀ f ∈ fs, fibB n f = true) {ids : List Int} (h : rtB n fs (s : Int) ids = true) (hend : atW fs (s : Int) ids ids.length = (to : Int)) : ids ∈ rbL fs n s to := by
  have hsh := rtB_short hf h
  have hne := (rtB_parts h).2.1
  have hpos : 0 < ids.length := List.length_pos_iff.2 hne
  unfold rbL
  rw [if_neg (fun e => by
    have := atW_ne h (i := 0) (j := ids.length) hpos (Nat.le_refl _)
    rw [hend, ← e] at this
    exact this rfl)]
  have := rts_all (fs := fs) (to := to) (s := (s : Int)) ids n s [s] [] (by omega) rfl (by simpa using (rtB_parts h).2.2) (fun u => by show u ∈ [s] ↔ (u : Int) ∈ [(s : Int)]; simp; omega) (by simpa using hend) (fun j hj => by
    have h2 : j < ids.length := by simpa using hj
    have := atW_ne h h2 (Nat.le_refl _)
    rw [hend] at this
    simpa using this)
  simpa using this
theorem leR_len {a b : List Int} {s : Int} (h : leR fs s a b) : lenR fs a ≤ lenR fs b := by
  unfold leR at h
  rw [ordR_eq] at h
  apply Classical.byContradiction
  intro h2
  rw [if_neg (by omega), if_pos (by omega)] at h
  omega
/-- The shortest route is as long as the distance. -/
theorem short_dist {to : Nat} (hf : ∀ f ∈ fs, fibB n f = true) (he : endsB n fs) (hl : lensB fs) (hs : s < n) (ht : to < n) (hne : s ≠ to) :
    (frO fs n s to (fun _ => true) = none ∧ valL (distL (goneF []) fs n s) to < 0) ∨ ∃ r, frO fs n s to (fun _ => true) = some r ∧ r ∈ rbL fs n s to ∧ valL (distL (goneF []) fs n s) to = lenR fs r ∧ 0 ≤ lenR fs r := by
  cases hfr : frO fs n s to (fun _ => true) with
  | none =>
    left
    refine ⟨rfl, ?_⟩
    apply Classical.byContradiction
    intro h0
    obtain ⟨ids, h1, h2, h3⟩ := path_to he hl hs _ to ht (by omega) (Nat.le_refl _)
    have hids : ids ≠ [] := fun e => by
      rw [e] at h2
      have h2 : (s : Int) = (to : Int) := h2
      omega
    have hr : rtB n fs (s : Int) ids = true := by
      unfold rtB
      rw [Bool.and_eq_true, Bool.and_eq_true]
      exact ⟨by unfold inB; simp; omega, by simpa using hids, allB_iff.2 h1⟩
    have hm := rbL_all hf hr h2
    unfold frO at hfr
    rw [List.find?_eq_none] at hfr
    exact hfr ids ((srtR_ok _).2.mem_iff.2 hm) rfl
  | some r =>
    right
    have hm : r ∈ rbL fs n s to := (srtR_ok _).2.mem_iff.1 (List.mem_of_find?_eq_some (by unfold frO at hfr; exact hfr))
    obtain ⟨hr, hend⟩ := rbL_rt hs hm
    have hd := dist_route hf he hl hs hr r.length (Nat.le_refl _)
    rw [hend, Int.toNat_natCast] at hd
    have hd2 : valL (distL (goneF []) fs n s) to ≤ lenR fs r := hd.2
    obtain ⟨ids, h1, h2, h3⟩ := path_to he hl hs _ to ht hd.1 (Nat.le_refl _)
    have hids : ids ≠ [] := fun e => by
      rw [e] at h2
      have h2 : (s : Int) = (to : Int) := h2
      omega
    have hr2 : rtB n fs (s : Int) ids = true := by
      unfold rtB
      rw [Bool.and_eq_true, Bool.and_eq_true]
      exact ⟨by unfold inB; simp; omega, by simpa using hids, allB_iff.2 h1⟩
    have hm2 := rbL_all hf hr2 h2
    have hle := leR_len (find_least (srtR_ok _).1 (by unfold frO at hfr; exact hfr) ids ((srtR_ok _).2.mem_iff.2 hm2) rfl)
    have h4 := h3 ids.length (Nat.le_refl _)
    rw [h2, Int.toNat_natCast] at h4
    have h5 : rlTo fs ids ids.length = lenR fs ids := rfl
    rw [h5] at h4
    exact ⟨r, rfl, hm, by omega, by omega⟩
end
end Go.Proofs.YtjfafhehpfjofaaGreat
