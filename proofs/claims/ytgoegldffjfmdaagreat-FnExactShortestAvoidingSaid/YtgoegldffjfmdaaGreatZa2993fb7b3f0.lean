/- Lemmas and walks that the claim rests on, laid together. Conditions: none. -/
import Derived.Test.YtgoegldffjfmdaaGreatZ5d5b1e381207
import Derived.Sort.Grow
import Derived.Deep.RegionHeld3
import Derived.Shelf.SlSortCmp.NoneTotal
import Derived.Ground.SlsfProg
import Derived.Test.YtgoegldffjfmdaaGreatProg
import Derived.Test.YtgoegldffjfmdaaGreatZ11e46bb6b321
import Derived.Test.YtgoegldffjfmdaaGreatZ72a8aeab9d7c
import Derived.Test.YtgoegldffjfmdaaGreatZa514eb999546
import Derived.Test.YtgoegldffjfmdaaGreatZe3e35d62457e
import Derived.Shelf.Small.Bits
import Derived.Shelf.Strconv.Itoa0
import Derived.Shelf.Sort.Plain
import Derived.Shelf.Bits.Mul64
import Derived.Shelf.Slices.Turned
import Derived.Ground.Names2Prog
import Derived.Shelf.Slices.Clone
import Derived.Shelf.Slices.CompactI
import Derived.Shelf.Slices.SearchI
import Derived.Shelf.Slices.Cells
import Derived.Shelf.Slices.In.SortNone
import Derived.Ground.SlgnProg
import Derived.Shelf.SlicesE.Clone
import Derived.Laws.CopyOwn
import Derived.Laws.OwnMore
import Derived.Deep.LoopGhost
/- The order of routes with the worlds told as draws and new blocks. Conditions: as each states. By gen_grw.py. -/
namespace Go.Proofs.YtgoegldffjfmdaaGreat
open Go.RowKit Go.Sort
/-- Draws and new blocks. -/
def Grw (w w' : World) : Prop := ∃ (q : Nat) (os : Array Obj), w' = grow (w.drewN q) os
theorem Grw.refl (w : World) : Grw w w := ⟨0, #[], by rw [grow_empty]; rfl⟩
theorem Grw.trans {w w1 w2 : World} (h : Grw w w1) (k : Grw w1 w2) : Grw w w2 := by
  obtain ⟨q, os, rfl⟩ := h
  obtain ⟨q2, os2, rfl⟩ := k
  exact ⟨q + q2, os ++ os2, by show grow (grow ((w.drewN q).drewN q2) os) os2 = _; rw [grow_grow, World.drewN_drewN]⟩
theorem Grw.alloc {w w1 : World} (h : Grw w w1) (o : Obj) : Grw w (w1.alloc o) := h.trans ⟨0, #[o], by rw [alloc_eq_grow]; rfl⟩
theorem Grw.drew (w : World) : Grw w w.drew := ⟨1, #[], by rw [grow_empty]; rfl⟩
theorem Grw.below {w w' : World} (h : Grw w w') : Cls w w' := by
  obtain ⟨q, os, rfl⟩ := h
  refine ⟨rfl, rfl, rfl, ?_, fun k hk => ?_⟩
  · show w.heap.size ≤ (w.heap ++ os).size
    rw [Array.size_append]; omega
  · show (w.heap ++ os)[k]? = w.heap[k]?
    rw [Array.getElem?_append_left hk]
section
variable {n c m d er eq : Nat} {A A' R Q : Option Addr} {xs : List ByteArray} {fs : List Fib} {s t : Int} {ids jds : List Int}
set_option maxHeartbeats 1000000 in
set_option maxRecDepth 100000 in
theorem lengthOf_grw (w : World) (h : NetIs w A n c A' m d xs fs) (hr : RtIs w R ids.length er ids) (hin : ∀ x ∈ ids, 0 ≤ x ∧ x < fs.length) (hl : ∀ f ∈ fs, 0 ≤ f.len ∧ f.len ≤ 5000) :
    Calls Tryz.prog 45 #[.agg #[.slice A n c, .slice A' m d], .agg #[.int .i64 s, .slice R ids.length er]] w fun e w' => e = .returned (.int .i64 (lenR fs ids)) ∧ Grw w w' := by
  have hS := ((Led.nil w).blk_ w.heap.size rfl 34 #[.slice A n c, .slice A' m d]).blk_ (w.heap.size + 1) (by simp) 29 #[.int .i64 s, .slice R ids.length er]
  have hbd := hid (rlTo_bd hl hin)
  have HIN := hid hin
  have hkr := hr.le
  have hm := h.mle
  have hlf := hid h.flen
  have HS := hid hS
  have HG : Hid (Grw w ((w.alloc (.cells #[.slice A n c, .slice A' m d] 34)).alloc (.cells #[.int .i64 s, .slice R ids.length er] 29))) := ((Grw.refl w).alloc _).alloc _
  have HF := hid h
  have HR := hid hr
  clear hin hl hS h hr
  go_enter Tryz.func45, Tryz.ntmps45
  go_wp2_with fail
  go_loopw [5, 11] (fun t i wr => ∃ (k : Nat) (r : Int), k ≤ ids.length ∧ i = .int .i64 k ∧ t = .int .i64 r ∧ Hid (r = rlTo fs ids k) ∧ Hid (Led w wr [tBlk (w.heap.size + 1) 29 #[.int .i64 s, .slice R ids.length er], tBlk w.heap.size 34 #[.slice A n c, .slice A' m d]]) ∧ Hid (Grw w wr)) (fun _ i _ => ids.length - (intOf i).toNat)
  case atStart => exact ⟨0, 0, Nat.zero_le _, rfl, rfl, (rlTo_zero fs ids).symm, HS, HG⟩
  case round =>
    clear HS HG
    obtain ⟨k, r, hk, rfl, rfl, hre, HS, HG⟩ := hrel
    have p1 := HS.out.cell 1 1 rfl rfl
    have p3 := HS.out.cell 0 1 rfl rfl
    by_cases hlt : k < ids.length
    · obtain ⟨ib, io, rfl, _, hc⟩ := HR.out.2.at_ hlt
      obtain ⟨x, hxk⟩ := get_of (k := k) rfl hlt
      have hx := HIN.out x (List.mem_of_getElem? hxk)
      rw [hlf.out] at hx
      obtain ⟨j, rfl⟩ : ∃ j : Nat, x = (j : Int) := ⟨x.toNat, by omega⟩
      obtain ⟨b, o, rfl, _, hd⟩ := HF.out.fibs.at_ (k := j) (by omega)
      obtain ⟨f, hfj⟩ := get_of (k := j) hlf.out (by omega)
      have e0 := bl_cell HS.out.bl (hc k _ hxk 0 _ rfl)
      have f2 := bl_cell HS.out.bl (hd j f hfj 2 _ rfl)
      simp only [elFib, elInt, Nat.mul_one, Nat.add_zero] at e0 f2
      have b1 := hbd.out k (by omega)
      have b2 := hbd.out (k + 1) (by omega)
      have HN : Hid (rlTo fs ids (k + 1) = r + f.len) := by unfold Hid; rw [rlTo_succ hxk (by simpa using hfj), ← hre.out]
      rw [← hre.out] at b1
      rw [HN.out] at b2
      have iw : IntKind.i64.wrap (r + f.len) = r + f.len := IntWalk.i64_in _ (by omega)
      have ik : (k : Int) < (ids.length : Int) := by omega
      clear hc hd hxk hfj
      go_wp2
      go_roundw
      case rel => exact ⟨k + 1, _, by omega, by go_num, rfl, HN.out.symm, HS, HG⟩
      case measure => simp [intOf]; omega
    · have hkm : k = ids.length := by omega
      have HE : Hid (r = lenR fs ids) := by rw [hkm] at hre; exact hre
      clear hlt hre
      go_wp2
      go_ret
      exact ⟨by rw [HE.out]; rfl, HG.out⟩
set_option maxHeartbeats 2000000 in
set_option maxRecDepth 100000 in
theorem compareRoutes_grw (w : World) (h : NetIs w A n c A' m d xs fs) (hr : RtIs w R ids.length er ids) (hq : RtIs w Q jds.length eq jds) (hl : ∀ f ∈ fs, 0 ≤ f.len ∧ f.len ≤ 5000) (hi : ∀ x ∈ ids, 0 ≤ x ∧ x < fs.length) (hj : ∀ x ∈ jds, 0 ≤ x ∧ x < fs.length) :
    Calls Tryz.prog 80 #[.agg #[.slice A n c, .slice A' m d], .agg #[.int .i64 s, .slice R ids.length er], .agg #[.int .i64 t, .slice Q jds.length eq]] w fun e w' => e = .returned (.int .i64 (ordR fs s ids t jds)) ∧ Grw w w' := by
  have hS := (((Led.nil w).blk_ w.heap.size rfl 34 #[.slice A n c, .slice A' m d]).blk_ (w.heap.size + 1) (by simp) 29 #[.int .i64 s, .slice R ids.length er]).blk_ (w.heap.size + 1 + 1) (by simp) 29 #[.int .i64 t, .slice Q jds.length eq]
  have hri := hr.le
  have hqi := hq.le
  have H : Hid (ordR fs s ids t jds = orI [cmpB (lenR fs ids) (lenR fs jds), cmpB (ids.length : Int) (jds.length : Int), cmpL ids jds, cmpB s t]) := rfl
  have HL : Hid (∀ w', Grw w w' → Calls Tryz.prog 45 #[.agg #[.slice A n c, .slice A' m d], .agg #[.int .i64 s, .slice R ids.length er]] w' fun e w2 => e = .returned (.int .i64 (lenR fs ids)) ∧ Grw w' w2) := fun w' hw => lengthOf_grw w' (h.grow hw.below) (hr.grow hw.below) hi hl
  have HM : Hid (∀ w', Grw w w' → Calls Tryz.prog 45 #[.agg #[.slice A n c, .slice A' m d], .agg #[.int .i64 t, .slice Q jds.length eq]] w' fun e w2 => e = .returned (.int .i64 (lenR fs jds)) ∧ Grw w' w2) := fun w' hw => lengthOf_grw w' (h.grow hw.below) (hq.grow hw.below) hj hl
  have HC : Hid (∀ w', Grw w w' → Calls Tryz.prog 104 #[.slice R ids.length er, .slice Q jds.length eq] w' fun e w2 => e = .returned (.int .i64 (cmpL ids jds)) ∧ w' = w2) := fun w' hw => compareL_any w' (hr.grow hw.below).2 (hq.grow hw.below).2 hri
  clear hi hj hl h hr hq
  go_enter Tryz.func80, Tryz.ntmps80
  go_wp2_with fail
  have hG : Grw w (((w.alloc (.cells #[.slice A n c, .slice A' m d] 34)).alloc (.cells #[.int .i64 s, .slice R ids.length er] 29)).alloc (.cells #[.int .i64 t, .slice Q jds.length eq] 29)) := (((Grw.refl w).alloc _).alloc _).alloc _
  generalize (((w.alloc (.cells #[.slice A n c, .slice A' m d] 34)).alloc (.cells #[.int .i64 s, .slice R ids.length er] 29)).alloc (.cells #[.int .i64 t, .slice Q jds.length eq] 29)) = W0 at *
  have C0 : ∀ w', Grw W0 w' → w'.cell? ⟨w.heap.size, 0, none⟩ = some (.slice A n c) := fun _ h => h.below.cell (hS.cell 2 0 rfl rfl)
  have C1 : ∀ w', Grw W0 w' → w'.cell? ⟨w.heap.size, 1, none⟩ = some (.slice A' m d) := fun _ h => h.below.cell (hS.cell 2 1 rfl rfl)
  have C2 : ∀ w', Grw W0 w' → w'.cell? ⟨w.heap.size + 1, 0, none⟩ = some (.int .i64 s) := fun _ h => h.below.cell (hS.cell 1 0 rfl rfl)
  have C3 : ∀ w', Grw W0 w' → w'.cell? ⟨w.heap.size + 1, 1, none⟩ = some (.slice R ids.length er) := fun _ h => h.below.cell (hS.cell 1 1 rfl rfl)
  have C4 : ∀ w', Grw W0 w' → w'.cell? ⟨w.heap.size + 1 + 1, 0, none⟩ = some (.int .i64 t) := fun _ h => h.below.cell (hS.cell 0 0 rfl rfl)
  have C5 : ∀ w', Grw W0 w' → w'.cell? ⟨w.heap.size + 1 + 1, 1, none⟩ = some (.slice Q jds.length eq) := fun _ h => h.below.cell (hS.cell 0 1 rfl rfl)
  have HB : Hid (Grw w W0) := hG
  clear hS hG
  go_region_held3 (fun w' => Grw W0 w') (first | assumption | exact Grw.drew _ | exact Grw.trans (by assumption) (by assumption) | exact Grw.alloc (by assumption) _)
    (first
      | (go_at_call 45; with_reducible refine (HL.out _ (HB.out.trans (by assumption))).mono ?_; rintro e w' ⟨rfl, hb1⟩)
      | (go_at_call 45; with_reducible refine (HM.out _ (HB.out.trans (by assumption))).mono ?_; rintro e w' ⟨rfl, hb2⟩)
      | (go_at_call 104; refine (HC.out _ (HB.out.trans (by assumption))).mono ?_; rintro e w' ⟨rfl, rfl⟩)
      | (go_at_call 51; refine (compare_any _ _ _).mono ?_; rintro e w' ⟨rfl, rfl⟩)
      | (go_at_call 103; refine (or_any (x0 := cmpB (lenR fs ids) (lenR fs jds)) (x1 := cmpB (ids.length : Int) (jds.length : Int)) (x2 := cmpL ids jds) (x3 := cmpB s t) _ (by go_simp) (by go_simp) (by go_simp) (by go_simp)).mono ?_; rintro e w' ⟨rfl, rfl⟩))
  have hz := HB.out.trans (by assumption)
  go_wp2
  go_ret
  exact ⟨by rw [H.out]; rfl, hz⟩
set_option maxHeartbeats 1000000 in
set_option maxRecDepth 100000 in
/-- The closure that routesBetween sorts by. -/
theorem routesCmp_grw {gn : Nat} (w : World) (h : NetIs w A n c A' m d xs fs) (hg : ∀ i v, (#[Value.slice A n c, Value.slice A' m d] : Array Value)[i]? = some v → w.cell? ⟨gn, i, none⟩ = some v) (hr : RtIs w R ids.length er ids) (hq : RtIs w Q jds.length eq jds) (hl : ∀ f ∈ fs, 0 ≤ f.len ∧ f.len ≤ 5000) (hi : ∀ x ∈ ids, 0 ≤ x ∧ x < fs.length) (hj : ∀ x ∈ jds, 0 ≤ x ∧ x < fs.length) :
    Calls Tryz.prog 79 #[.agg #[.int .i64 s, .slice R ids.length er], .agg #[.int .i64 t, .slice Q jds.length eq], .pointer (some ⟨gn, 0, none⟩)] w fun e w' => e = .returned (.int .i64 (ordR fs s ids t jds)) ∧ Grw w w' := by
  have hG : Grw w ((w.alloc (.cells #[.int .i64 s, .slice R ids.length er] 29)).alloc (.cells #[.int .i64 t, .slice Q jds.length eq] 29)) := ((Grw.refl w).alloc _).alloc _
  have hS := ((Led.nil w).blk_ w.heap.size rfl 29 #[.int .i64 s, .slice R ids.length er]).blk_ (w.heap.size + 1) (by simp) 29 #[.int .i64 t, .slice Q jds.length eq]
  have p0 := hG.below.cell (hg 0 _ rfl)
  have p1 := hG.below.cell (hg 1 _ rfl)
  have HC := hid (compareRoutes_grw (s := s) (t := t) _ (h.grow hG.below) (hr.grow hG.below) (hq.grow hG.below) hl hi hj)
  have HG := hid hG
  clear hG hS hg h hr hq hl hi hj
  go_enter Tryz.func79, Tryz.ntmps79
  go_wp2_with fail
  refine HC.out.mono ?_
  rintro e w1 ⟨rfl, h1⟩
  go_wp2_with fail
  go_ret
  exact ⟨rfl, HG.out.trans h1⟩
end
end Go.Proofs.YtgoegldffjfmdaaGreat
/-
  DERIVED: THE SHELF's CONTRACTS AT THIS DUMP, IN PLAIN WORDS (tools/lay-plain.mjs out of 'TryzShelfR.lean', which tools/lay-shelf.mjs wrote): THE SAME DECLARATIONS UNDER THE SAME NAMES: 'import', 'namespace', 'open', 'def', 'theorem' AND NOTHING ELSE: no command of the shelf's: FOR A HAND-IN. Each laying: the table of numbers ('.._ren') and one theorem, a field a fact of the dump's own or the kernel's comparison; each contract: ONE APPLICATION.
-/
namespace Go.Proofs
open Go.Shelf
def Tryz.sortR_ren : Go.Shelf.Ren := ⟨fun | 6 => 78 | 15 => 97 | 14 => 102 | 28 => 117 | 29 => 118 | 20 => 121 | 21 => 122 | 22 => 123 | 23 => 124 | 24 => 125 | 25 => 126 | 26 => 127 | 27 => 128 | 46 => 135 | 47 => 131 | 48 => 132 | 49 => 136 | 50 => 137 | 57 => 139 | n => n, fun | 22 => 76 | 24 => 29 | 25 => 80 | 3 => 3 | 39 => 119 | 0 => 0 | 53 => 135 | 55 => 67 | 4 => 4 | 46 => 129 | 45 => 128 | 50 => 49 | 5 => 5 | 9 => 9 | 66 => 146 | 70 => 150 | 76 => 154 | 77 => 155 | n => n, fun | n => n⟩
theorem Tryz.sortR : Go.Proofs.SlLaysF0.n6 Tryz.prog Tryz.sortR_ren := {
  mixed := by kernel_rfl
  f6 := ⟨Tryz.f78.name, by decide, Tryz.func78.trans (congrArg some (by kernel_rfl))⟩
  f14 := ⟨Tryz.f102.name, by decide, Tryz.func102.trans (congrArg some (by kernel_rfl))⟩
  f15 := Tryz.func97.trans (congrArg some (by kernel_rfl))
  f20 := ⟨Tryz.f121.name, by decide, Tryz.func121.trans (congrArg some (by kernel_rfl))⟩
  f21 := ⟨Tryz.f122.name, by decide, Tryz.func122.trans (congrArg some (by kernel_rfl))⟩
  f22 := ⟨Tryz.f123.name, by decide, Tryz.func123.trans (congrArg some (by kernel_rfl))⟩
  f23 := ⟨Tryz.f124.name, by decide, Tryz.func124.trans (congrArg some (by kernel_rfl))⟩
  f24 := ⟨Tryz.f125.name, by decide, Tryz.func125.trans (congrArg some (by kernel_rfl))⟩
  f25 := ⟨Tryz.f126.name, by decide, Tryz.func126.trans (congrArg some (by kernel_rfl))⟩
  f26 := ⟨Tryz.f127.name, by decide, Tryz.func127.trans (congrArg some (by kernel_rfl))⟩
  f27 := ⟨Tryz.f128.name, by decide, Tryz.func128.trans (congrArg some (by kernel_rfl))⟩
  f28 := Tryz.func117.trans (congrArg some (by kernel_rfl))
  f29 := Tryz.func118.trans (congrArg some (by kernel_rfl))
  f46 := ⟨Tryz.f135.name, by decide, Tryz.func135.trans (congrArg some (by kernel_rfl))⟩
  f47 := Tryz.func131.trans (congrArg some (by kernel_rfl))
  f48 := Tryz.func132.trans (congrArg some (by kernel_rfl))
  f49 := ⟨Tryz.f136.name, by decide, Tryz.func136.trans (congrArg some (by kernel_rfl))⟩
  f50 := ⟨Tryz.f137.name, by decide, Tryz.func137.trans (congrArg some (by kernel_rfl))⟩
  f57 := ⟨Tryz.f139.name, by decide, Tryz.func139.trans (congrArg some (by kernel_rfl))⟩
  t0 := Tryz.underlying0
  a0 := Tryz.isAgg0
  z0 := Tryz.sizeOf0
  v0 := Tryz.zeroValue0
  t3 := Tryz.underlying3
  a3 := Tryz.isAgg3
  z3 := Tryz.sizeOf3
  v3 := Tryz.zeroValue3
  t4 := Tryz.underlying4
  a4 := Tryz.isAgg4
  z4 := Tryz.sizeOf4
  v4 := Tryz.zeroValue4
  t5 := Tryz.underlying5
  a5 := Tryz.isAgg5
  z5 := Tryz.sizeOf5
  v5 := Tryz.zeroValue5
  t9 := Tryz.underlying9
  a9 := Tryz.isAgg9
  z9 := Tryz.sizeOf9
  v9 := Tryz.zeroValue9
  t22 := Tryz.underlying76
  a22 := Tryz.isAgg76
  z22 := Tryz.sizeOf76
  v22 := Tryz.zeroValue76
  t25 := Tryz.underlying80
  a25 := Tryz.isAgg80
  z25 := Tryz.sizeOf80
  v25 := Tryz.zeroValue80
  t39 := Tryz.underlying119
  a39 := Tryz.isAgg119
  z39 := Tryz.sizeOf119
  v39 := Tryz.zeroValue119
  t45 := Tryz.underlying128
  a45 := Tryz.isAgg128
  z45 := Tryz.sizeOf128
  v45 := Tryz.zeroValue128
  t46 := Tryz.underlying129
  a46 := Tryz.isAgg129
  z46 := Tryz.sizeOf129
  v46 := Tryz.zeroValue129
  t50 := Tryz.underlying49
  a50 := Tryz.isAgg49
  z50 := Tryz.sizeOf49
  v50 := Tryz.zeroValue49
  t53 := Tryz.underlying135
  a53 := Tryz.isAgg135
  z53 := Tryz.sizeOf135
  v53 := Tryz.zeroValue135
  t55 := Tryz.underlying67
  a55 := Tryz.isAgg67
  z55 := Tryz.sizeOf67
  v55 := Tryz.zeroValue67
  t66 := Tryz.underlying146
  a66 := Tryz.isAgg146
  z66 := Tryz.sizeOf146
  v66 := Tryz.zeroValue146
  t70 := Tryz.underlying150
  a70 := Tryz.isAgg150
  z70 := Tryz.sizeOf150
  v70 := Tryz.zeroValue150
  t76 := Tryz.underlying154
  a76 := Tryz.isAgg154
  z76 := Tryz.sizeOf154
  v76 := Tryz.zeroValue154
  t77 := Tryz.underlying155
  a77 := Tryz.isAgg155
  z77 := Tryz.sizeOf155
  v77 := Tryz.zeroValue155 }
end Go.Proofs
/- slices.SortFunc of routes, by the library's contract, in the words of the ledger. Conditions: at most 1048576 fibers of a route; one start. -/
namespace Go.Proofs.YtgoegldffjfmdaaGreat
open Go.RowKit
theorem ordR_flip (fs : List Fib) (s : Int) (a b : List Int) : ordR fs s a s b = -ordR fs s b s a := by
  rw [ordR_eq, ordR_eq]
  have hf := cmpL_flip a b
  repeat' split
  all_goals omega
theorem ordR_same (fs : List Fib) (s : Int) (a : List Int) : ordR fs s a s a = 0 := by
  have := ordR_flip fs s a a
  omega
theorem leR_of_not {fs : List Fib} {s : Int} {a b : List Int} (h : ¬ ordR fs s b s a < 0) : leR fs s a b := by
  unfold leR
  have := ordR_flip fs s a b
  omega
/-- A route of the row that is sorted. -/
structure SRt (w : World) (base : Nat) (fs : List Fib) (blk : Nat) where
  sl : Sl
  ids : List Int
  own : Owns elInt w base 3 (slV sl) ids
  le : ids.length ≤ 1048576
  ok : ∀ x ∈ ids, 0 ≤ x ∧ x < fs.length
  far : ∀ g, (slV sl).ownBlock = some g → ¬ g = blk
section
variable {w : World} {base blk : Nat} {fs : List Fib} {s : Int}
def encS (s : Int) (x : SRt w base fs blk) : List Value := [.int .i64 s, slV x.sl]
def cfS (s : Int) (x y : SRt w base fs blk) : Int := ordR fs s x.ids s y.ids
theorem ltS (x y : SRt w base fs blk) : ltOf (cfS s) x y = true ↔ ¬ leR fs s y.ids x.ids := by
  unfold ltOf cfS leR
  rw [decide_eq_true_eq, ordR_flip fs s x.ids y.ids]
  omega
theorem ltS_f (x y : SRt w base fs blk) : ltOf (cfS s) x y = false ↔ leR fs s y.ids x.ids := by
  have := ltS (s := s) x y
  cases g : ltOf (cfS s) x y
  · rw [g] at this
    simp at this
    simpa using this
  · rw [g] at this
    simp at this
    simpa using this
theorem swoS : Go.Sort.SWO (ltOf (cfS (w := w) (base := base) (fs := fs) (blk := blk) s)) where
  irrefl x := by rw [ltS_f]; unfold leR; rw [ordR_same]; exact Int.le_refl _
  trans x y z h1 h2 := by
    rw [ltS] at *
    intro h
    exact h1 (leR_trans (leR_total h2) h)
  ntrans x y z h1 h2 := by
    rw [ltS_f] at *
    exact leR_trans h2 h1
end
section
variable {w : World} {base blk : Nat} {fs : List Fib} {s : Int} [Inhabited (SRt w base fs blk)]
theorem sort_touch (m : Nat) (dk : Array (SRt w base fs blk)) (os : Array Obj) : Touch (fun b => b = blk) w (sortWorldK (encS s) 2 w blk 0 m dk os) := by
  refine ⟨rfl, rfl, rfl, ?_, fun k hk hn => ?_⟩
  · simp [sortWorldK, Go.Sort.putRowK, Go.Sort.grow, Go.Sort.putRow, Go.Sort.mapBlock, Go.Sort.ahead]
  · have hk' : k < (w.heap.modify blk (Go.Sort.onCells (Go.Sort.putCells id 0 (Go.Sort.flatK (encS s) 2 dk)))).size := by simpa using hk
    show (w.heap.modify blk (Go.Sort.onCells (Go.Sort.putCells id 0 (Go.Sort.flatK (encS s) 2 dk))) ++ os)[k]? = _
    rw [Array.getElem?_append_left hk', Array.getElem?_modify, if_neg (fun e => hn e.symm)]
theorem sort_blk {T : TypeId} {cur : Array Value} (h : Blk w blk T cur) (m : Nat) (dk : Array (SRt w base fs blk)) (os : Array Obj) : ∃ cur', Blk (sortWorldK (encS s) 2 w blk 0 m dk os) blk T cur' ∧ cur'.size = cur.size ∧ ∀ k, k < dk.size → ∀ r, r < 2 → k * 2 + r < cur.size → cur'[k * 2 + r]? = some ((encS s dk[k]!)[r]!) := by
  refine ⟨Go.Sort.putCells id 0 (Go.Sort.flatK (encS s) 2 dk) cur, ?_, by simp [Go.Sort.putCells], fun k hk r hr hc => ?_⟩
  · unfold Blk at h ⊢
    have hb : blk < (w.heap.modify blk (Go.Sort.onCells (Go.Sort.putCells id 0 (Go.Sort.flatK (encS s) 2 dk)))).size := by
      have := (Array.getElem?_eq_some_iff.1 h).1
      simpa using this
    show (w.heap.modify blk (Go.Sort.onCells (Go.Sort.putCells id 0 (Go.Sort.flatK (encS s) 2 dk))) ++ os)[blk]? = _
    rw [Array.getElem?_append_left hb, Array.getElem?_modify, if_pos rfl, h]
    simp [Go.Sort.onCells]
  · unfold Go.Sort.putCells
    have hlt : k * 2 + r < dk.size * 2 := by omega
    rw [Array.getElem?_mapIdx, Array.getElem?_eq_getElem hc, Option.map_some, if_pos ⟨Nat.zero_le _, by rw [Go.Sort.size_flatK]; omega⟩, Nat.sub_zero, Go.Sort.get_flatK _ _ _ _ hlt]
    rw [show (k * 2 + r) / 2 = k by omega, show (k * 2 + r) % 2 = r by omega]
    rfl
end
section
variable {w0 w : World} {L : List Thing} {base n c nn cc m d gn : Nat} {A B B' : Option Addr} {ss : List (Int × Sl)} {rows : List (Int × List Int)} {xs : List ByteArray} {fs : List Fib} {s : Int}
theorem SRt.rtIs {g : Nat} {W : World} (x : SRt w base fs g) (ht : Touch (fun b => b = g) w W) : RtIs W x.sl.A x.ids.length x.sl.c x.ids ∧ x.sl.n = x.ids.length := by
  have ho : Owns elInt W base 3 (slV x.sl) x.ids := x.own.touch ht (fun g' hg' e => x.far g' hg' e)
  obtain ⟨A', c', hv, hc, _, hs⟩ := ho.form
  unfold slV at hv
  injection hv with e1 e2 e3
  refine ⟨⟨⟨by rw [e3]; exact hc, x.le⟩, ?_⟩, e2⟩
  rw [e1]
  exact hs
set_option maxHeartbeats 1000000 in
set_option maxRecDepth 100000 in
theorem sortRoutes_led (h : Led w0 w L) (i : Nat) (hi : L[i]? = some (tRS base (.slice A n c) ss rows)) (hbx : Blk w gn 34 #[.slice B nn cc, .slice B' m d]) (hgx : ∀ g, (Value.slice A n c).ownBlock = some g → gn ≠ g) (hn : NetIs w0 B nn cc B' m d xs fs) (hl : ∀ f ∈ fs, 0 ≤ f.len ∧ f.len ≤ 5000)
    (hr : ∀ r ∈ rows, r.1 = s ∧ r.2.length ≤ 1048576 ∧ ∀ x ∈ r.2, 0 ≤ x ∧ x < fs.length) (hnn : n ≤ 1099511627776) :
    Calls Tryz.prog 78 #[.slice A n c, .func (.func 79) #[] #[.pointer (some ⟨gn, 0, none⟩)]] w fun e w' => e = .returned (.tuple #[]) ∧
      ∃ ss' rows', rows'.Perm rows ∧ rows'.Pairwise (fun a b => leR fs s a.2 b.2) ∧ Led w0 w' (L.set i (tRS base (.slice A n c) ss' rows')) := by
  have hsn := rs_n h i hi
  have hrl := rs_rows h i hi
  have hO : OwnsRS w base (.slice A n c) ss rows := h.get i hi
  have hset : L.set i (tRS base (.slice A n c) ss rows) = L := by
    obtain ⟨hl2, he⟩ := List.getElem?_eq_some_iff.1 hi
    rw [← he]; exact List.set_getElem_self hl2
  rcases Nat.eq_zero_or_pos n with h0 | hpos
  · subst h0
    have hr0 : rows = [] := List.eq_nil_of_length_eq_zero hrl
    have hz := AnyF.slices_SortFunc_none Tryz.sortR A c (.func (.func 79) #[] #[.pointer (some ⟨gn, 0, none⟩)]) w
    refine Calls.mono hz ?_
    rintro e w' ⟨rfl, rfl⟩
    refine ⟨rfl, ss, rows, List.Perm.refl _, by rw [hr0]; exact List.Pairwise.nil, ?_⟩
    rw [hset]; exact h
  · rcases hO.1.cases with ⟨_, h0⟩ | ⟨g, c1, cur, hv, hbase, hblk, hnc, hcm, hcs, hfl⟩
    · rw [h0] at hsn; simp at hsn; omega
    · rw [hsn] at hv hnc hfl
      injection hv with e1 e2 e3
      subst e1
      subst e3
      have key : ∀ k : Nat, k < n → ∃ x : SRt w base fs g, ss[k]? = some (s, x.sl) ∧ rows[k]? = some (s, x.ids) := by
        intro k hk
        obtain ⟨r, hrk⟩ := get_of (k := k) hrl hk
        obtain ⟨t, htk⟩ := get_of (k := k) hsn hk
        obtain ⟨h1, h2⟩ := hO.2.2.1 k t r htk hrk
        obtain ⟨h3, h4, h5⟩ := hr r (List.mem_of_getElem? hrk)
        refine ⟨⟨t.2, r.2, h2, h4, h5, fun g' hg' e => ?_⟩, ?_, ?_⟩
        · exact owns_ne h2 hO.1 (by decide) g rfl (by rw [← e]; exact hg')
        · rw [htk, ← h3, ← h1]
        · rw [hrk, ← h3]
      obtain ⟨x0, _, _⟩ := key 0 hpos
      letI : Inhabited (SRt w base fs g) := ⟨x0⟩
      obtain ⟨f, hf⟩ := Go.Deep.choose_lt key
      obtain ⟨D, hD⟩ : ∃ D : Array (SRt w base fs g), D = ((List.range n).map f).toArray := ⟨_, rfl⟩
      have hDs : D.size = n := by rw [hD]; simp
      have hDl : D.toList = (List.range n).map f := by rw [hD]
      have hss : ss = D.toList.map fun x => (s, x.sl) := by
        refine List.ext_getElem? fun k => ?_
        rw [hDl, List.map_map, List.getElem?_map]
        rcases Nat.lt_or_ge k n with hk | hk
        · rw [List.getElem?_range hk, (hf k hk).1]; rfl
        · rw [List.getElem?_eq_none (by omega), List.getElem?_eq_none (by simp; omega)]; rfl
      have hrw : rows = D.toList.map fun x => (s, x.ids) := by
        refine List.ext_getElem? fun k => ?_
        rw [hDl, List.map_map, List.getElem?_map]
        rcases Nat.lt_or_ge k n with hk | hk
        · rw [List.getElem?_range hk, (hf k hk).2]; rfl
        · rw [List.getElem?_eq_none (by omega), List.getElem?_eq_none (by simp; omega)]; rfl
      have hH : Go.Sort.HoldsK (encS s) 2 w g 0 D := by
        intro t ht
        rw [Go.Sort.size_flatK] at ht
        refine ⟨?_, by rw [Nat.zero_add]; exact hblk.frozen t⟩
        rw [Nat.zero_add, Go.Sort.get_flatK _ _ _ _ ht]
        have hk : t / 2 < n := by omega
        have h1 := hfl (t / 2) _ hk (by rw [(hf (t / 2) hk).1])
        have hDk : D[t / 2]! = f (t / 2) := by rw [hD]; simp [hk]
        rw [hDk, hblk.cell]
        have h2 := h1 (t % 2)
        rcases Nat.lt_or_ge (t % 2) 1 with h3 | h3
        · have h4 : t % 2 = 0 := by omega
          have h5 := h2 (.int .i64 s) (by rw [h4]; rfl)
          rw [show t / 2 * elRt.sz + t % 2 = t by show t / 2 * 2 + t % 2 = t; omega] at h5
          rw [h5, h4]; rfl
        · have h4 : t % 2 = 1 := by omega
          have h5 := h2 (slV (f (t / 2)).sl) (by rw [h4]; rfl)
          rw [show t / 2 * elRt.sz + t % 2 = t by show t / 2 * 2 + t % 2 = t; omega] at h5
          rw [h5, h4]; rfl
      have hgn : gn ≠ g := hgx g rfl
      have hC : CmpLays Tryz.prog 79 #[.pointer (some ⟨gn, 0, none⟩)] (encS s) 2 (cfS (w := w) (base := base) (fs := fs) (blk := g) s) g 0 D.size w := by
        intro q os dk _ x y
        have ht := sort_touch (s := s) (blk := g) (w := w) q dk os
        obtain ⟨hx, hxn⟩ := x.rtIs ht
        obtain ⟨hy, hyn⟩ := y.rtIs ht
        have hbl : Below w0.heap.size w0 (sortWorldK (encS s) 2 w g 0 q dk os) := h.bl.trans (ht.below (B := w0.heap.size) (fun b e => by rw [e]; exact (h.all i _ hi).2 g (.inl rfl)) h.bl.size)
        have hbx2 := hbx.touch ht hgn
        have hc := routesCmp_grw (gn := gn) (s := s) (t := s) _ (hn.grow hbl) (fun i v hv => by rw [hbx2.cell]; exact hv) hx hy hl x.ok y.ok
        have e1 : (encS s x).toArray = #[.int .i64 s, .slice x.sl.A x.ids.length x.sl.c] := by unfold encS slV; rw [hxn]
        have e2 : (encS s y).toArray = #[.int .i64 s, .slice y.sl.A y.ids.length y.sl.c] := by unfold encS slV; rw [hyn]
        rw [e1, e2]
        exact hc
      have hcall := AnyQ.slices_SortFunc Tryz.sortR 2 Tryz.isAgg29 Tryz.sizeOf29 (encS s) (fun _ => rfl) (fun x v hv => by simp [encS] at hv; rcases hv with rfl | rfl <;> rfl) (cfS (w := w) (base := base) (fs := fs) (blk := g) s) swoS 79 #[.pointer (some ⟨gn, 0, none⟩)] g 0 c D w (fun _ _ => by rfl) hC hH hblk.lt (by omega)
      rw [hDs] at hcall
      refine Calls.mono hcall ?_
      rintro e w' ⟨rfl, d', q, os, hp, hsrt, rfl⟩
      have hsz : d'.size = n := by rw [hp.1, hDs]
      have hperm : d'.toList.Perm D.toList := by
        have h1 := hp.2.2
        rw [← hsz] at h1
        have h2 : d'.extract 0 d'.size = d' := by simp
        have h3 : D.extract 0 d'.size = D := by rw [hsz, ← hDs]; simp
        rw [h2, h3] at h1
        exact h1
      have hget : ∀ k, k < n → ∃ x : SRt w base fs g, d'.toList[k]? = some x ∧ d'[k]! = x ∧ x ∈ D.toList := by
        intro k hk
        have hk2 : k < d'.size := by omega
        refine ⟨d'[k], by simp [hk2], by simp [hk2], hperm.mem_iff.1 (by simp)⟩
      have ht := sort_touch (s := s) (blk := g) (w := w) q d' os
      obtain ⟨cur', hblk', hcs', hcur⟩ := sort_blk (s := s) hblk q d' os
      have hdl : d'.toList.length = n := by simp [hsz]
      refine ⟨rfl, d'.toList.map fun x => (s, x.sl), d'.toList.map fun x => (s, x.ids), ?_, ?_, ?_⟩
      · rw [hrw]; exact hperm.map _
      · rw [List.pairwise_map, List.pairwise_iff_getElem]
        intro a b ha hb hab
        have ha' : a < n := by omega
        have hb' : b < n := by omega
        have h1 := hsrt a b (Nat.zero_le _) hab hb'
        rw [ltS_f] at h1
        have e1 : d'[a]! = d'.toList[a] := by simp [hsz, ha']
        have e2 : d'[b]! = d'.toList[b] := by simp [hsz, hb']
        rw [e1, e2] at h1
        exact h1
      · have hS : rsS (.slice (some ⟨g, 0, none⟩) n c) (d'.toList.map fun x => (s, x.sl)) = rsS (.slice (some ⟨g, 0, none⟩) n c) ss := by
          funext b
          apply propext
          have hm : ∀ t : Int × Sl, t ∈ (d'.toList.map fun x => (s, x.sl)) ↔ t ∈ ss := fun t => by rw [hss]; exact (hperm.map _).mem_iff
          unfold rsS
          constructor
          · rintro (e | ⟨i, t, hti, e⟩)
            · exact .inl e
            · obtain ⟨i', hi'⟩ := List.getElem?_of_mem ((hm t).1 (List.mem_of_getElem? hti))
              exact .inr ⟨i', t, hi', e⟩
          · rintro (e | ⟨i, t, hti, e⟩)
            · exact .inl e
            · obtain ⟨i', hi'⟩ := List.getElem?_of_mem ((hm t).2 (List.mem_of_getElem? hti))
              exact .inr ⟨i', t, hi', e⟩
        refine h.touch i hi hS (ht.mono fun b hb => .inl (by rw [hb]; rfl)) ?_
        refine ⟨?_, by simp, fun k t r h1 h2 => ?_, fun a b t t' g' hab h1 h2 h3 h4 => ?_⟩
        · refine Owns.of_blk hblk' hbase (by rw [List.length_map, hdl]) hnc (by rw [hcs', hcs]) hcm (fun k t hk htk i u hu => ?_)
          obtain ⟨x, hx1, hx2, _⟩ := hget k hk
          rw [List.getElem?_map, hx1] at htk
          injection htk with htk
          subst htk
          have hi2 : i < 2 := by have := (List.getElem?_eq_some_iff.1 hu).1; rw [elRt.len] at this; exact this
          have hcc : cur.size = c * 2 := hcs
          have h3 := hcur k (by omega) i hi2 (by omega)
          rw [hx2] at h3
          show cur'[k * 2 + i]? = some u
          rw [h3]
          have hu' : (encS s x)[i]? = some u := hu
          congr 1
          rw [List.getElem!_eq_getElem?_getD, hu']
          rfl
        · have hk : k < n := by have := (List.getElem?_eq_some_iff.1 h1).1; rw [List.length_map, hdl] at this; exact this
          obtain ⟨x, hx1, _, _⟩ := hget k hk
          rw [List.getElem?_map, hx1] at h1 h2
          injection h1 with h1
          injection h2 with h2
          subst h1
          subst h2
          exact ⟨rfl, x.own.touch ht (fun g' hg' e => x.far g' hg' e)⟩
        · have hP : D.toList.Pairwise fun x y => ∀ g', (slV x.sl).ownBlock = some g' → ¬ (slV y.sl).ownBlock = some g' := by
            rw [List.pairwise_iff_getElem]
            intro a b ha hb hab g' e1 e2
            have ea : ss[a]? = some (s, D.toList[a].sl) := by rw [hss, List.getElem?_map, List.getElem?_eq_getElem ha]; rfl
            have eb : ss[b]? = some (s, D.toList[b].sl) := by rw [hss, List.getElem?_map, List.getElem?_eq_getElem hb]; rfl
            exact hO.2.2.2 a b _ _ g' hab ea eb e1 e2
          have hP2 := hP.perm hperm.symm (fun {x y} hxy g' e1 e2 => hxy g' e2 e1)
          rw [List.pairwise_iff_getElem] at hP2
          rw [List.getElem?_map] at h1 h2
          obtain ⟨x, hx1, hx2⟩ := Option.map_eq_some_iff.1 h1
          obtain ⟨y, hy1, hy2⟩ := Option.map_eq_some_iff.1 h2
          subst hx2
          subst hy2
          obtain ⟨ha, ea⟩ := List.getElem?_eq_some_iff.1 hx1
          obtain ⟨hb, eb⟩ := List.getElem?_eq_some_iff.1 hy1
          have := hP2 a b ha hb hab g'
          rw [ea, eb] at this
          exact this h3 h4
end
end Go.Proofs.YtgoegldffjfmdaaGreat
/- Routes put one after another each at its place: a sorted list, in plain Lean. Conditions: none. -/
namespace Go.Proofs.YtgoegldffjfmdaaGreat
open Go.RowKit
section
variable {fs : List Fib} {s : Int}
/-- The place of a route among the first k. -/
def plcR (fs : List Fib) (s : Int) (l : List (List Int)) (r : List Int) : Nat → Nat
  | 0 => 0
  | k + 1 => if ordR fs s r s (l.getD k []) < 0 then plcR fs s l r k else k + 1
def insR (fs : List Fib) (s : Int) (l : List (List Int)) (r : List Int) : List (List Int) := putAt l (plcR fs s l r l.length) r
theorem plcR_le (l : List (List Int)) (r : List Int) : ∀ k, plcR fs s l r k ≤ k := by
  intro k
  induction k with
  | zero => exact Nat.le_refl _
  | succ k ih =>
    rw [plcR]
    split
    · omega
    · exact Nat.le_refl _
theorem plcR_back (l : List (List Int)) (r : List Int) : ∀ k j e, k ≤ l.length → plcR fs s l r k ≤ j → j < k → l[j]? = some e → leR fs s r e := by
  intro k
  induction k with
  | zero => intro j e _ _ h; omega
  | succ k ih =>
    intro j e hk hj hjk he
    rw [plcR] at hj
    split at hj
    · rename_i hlt
      rcases Nat.lt_or_ge j k with h | h
      · exact ih j e (by omega) hj h he
      · have : j = k := by omega
        subst this
        have hd : l.getD j [] = e := by rw [List.getD_eq_getElem?_getD, he]; rfl
        rw [hd] at hlt
        unfold leR; omega
    · omega
theorem plcR_front (l : List (List Int)) (r : List Int) : ∀ k, k ≤ l.length → plcR fs s l r k = 0 ∨ ∃ e, l[plcR fs s l r k - 1]? = some e ∧ leR fs s e r := by
  intro k
  induction k with
  | zero => intro _; exact .inl rfl
  | succ k ih =>
    intro hk
    rw [plcR]
    split
    · exact ih (by omega)
    · rename_i hlt
      have hkl : k < l.length := hk
      refine .inr ⟨l[k], by simp [hkl], ?_⟩
      have hd : l.getD k [] = l[k] := by rw [List.getD_eq_getElem?_getD, List.getElem?_eq_getElem hkl]; rfl
      rw [hd] at hlt
      exact leR_of_not hlt
theorem insR_len (l : List (List Int)) (r : List Int) : (insR fs s l r).length = l.length + 1 := putAt_len _ _ _
theorem insR_perm (l : List (List Int)) (r : List Int) : (insR fs s l r).Perm (r :: l) := putAt_perm _ _ _
theorem insR_sorted (l : List (List Int)) (r : List Int) (h : l.Pairwise (leR fs s)) : (insR fs s l r).Pairwise (leR fs s) :=
  place_ok (fun _ _ _ => leR_trans) h (plcR_le l r _) (fun j e hj he => plcR_back l r l.length j e (Nat.le_refl _) hj (List.getElem?_eq_some_iff.1 he).1 he) (plcR_front l r l.length (Nat.le_refl _))
/-- All routes, sorted. -/
def srtR (fs : List Fib) (s : Int) (D : List (List Int)) : List (List Int) := D.foldl (insR fs s) []
theorem srtR_ok (D : List (List Int)) : (srtR fs s D).Pairwise (leR fs s) ∧ (srtR fs s D).Perm D := by
  have h := fold_put (le := leR fs s) (ins := insR fs s) insR_perm insR_sorted D [] List.Pairwise.nil
  rw [List.append_nil] at h
  exact h
/-- Whoever sorted them. -/
theorem srtR_one {D l : List (List Int)} (h1 : l.Pairwise (leR fs s)) (h2 : l.Perm D) : l = srtR fs s D :=
  sorted_one (fun _ _ => leR_anti) h1 (srtR_ok D).1 (h2.trans (srtR_ok D).2.symm)
theorem srtR_rows {D : List (List Int)} {rows : List (Int × List Int)} (h1 : rows.Pairwise (fun a b => leR fs s a.2 b.2)) (h2 : rows.Perm (D.map fun r => (s, r))) : rows = (srtR fs s D).map fun r => (s, r) := by
  have h3 : rows.map (·.2) = srtR fs s D := by
    refine srtR_one ?_ ?_
    · rw [List.pairwise_map]; exact h1
    · have := h2.map (·.2)
      rw [List.map_map] at this
      have e : ((fun x : Int × List Int => x.2) ∘ fun r : List Int => (s, r)) = id := rfl
      rw [e, List.map_id] at this
      exact this
  have h4 : ∀ a ∈ rows, a.1 = s := fun a ha => by
    obtain ⟨r, _, rfl⟩ := List.mem_map.1 (h2.mem_iff.1 ha)
    rfl
  rw [← h3, List.map_map]
  have : rows.map ((fun r : List Int => (s, r)) ∘ fun x : Int × List Int => x.2) = rows.map id := by
    refine List.map_congr_left fun a ha => ?_
    show (s, a.2) = a
    rw [← h4 a ha]
  rw [this, List.map_id]
end
end Go.Proofs.YtgoegldffjfmdaaGreat
/- The best route, by a search that leaves out what cannot be better, in plain Lean: it is the best of all routes. Conditions: as each states. -/
namespace Go.Proofs.YtgoegldffjfmdaaGreat
open Go.RowKit
/-- The route found; its start. -/
def frL (o : Option (List Int)) : List Int := o.getD []
def frS (o : Option (List Int)) (s : Int) : Int := if o.isSome then s else 0
def nxQ (q : Nat → Bool) (fs : List Fib) (i v : Nat) : Option Nat := if q i then none else nxF fs i v
/-- All routes on from v that use no fiber of q. -/
def rtsQ (q : Nat → Bool) (fs : List Fib) (to k v : Nat) (seen : List Nat) (ids : List Int) : List (List Int) := dfsL fs.length to (nxQ q fs) k v seen ids
/-- Is r better than what was found? -/
def btR (few : Bool) (fs : List Fib) (s : Int) : Option (List Int) → List Int → Bool
  | none, _ => true
  | some b, r => if few && !(r.length == b.length) then decide (r.length < b.length) else decide (ordR fs s r s b < 0)
/-- Nothing from v on can be better. -/
def cutR (few : Bool) (fs : List Fib) (D : List Int) (v : Nat) (ids : List Int) : Option (List Int) → Bool
  | none => decide (valL D v < 0)
  | some b => (decide (valL D v < 0) || (!few && decide (lenR fs b < lenR fs ids + valL D v))) || (few && decide (b.length ≤ ids.length))
def bst (few : Bool) (fs : List Fib) (s : Int) (o : Option (List Int)) (r : List Int) : Option (List Int) := if btR few fs s o r then some r else o
def bbL (q : Nat → Bool) (few : Bool) (fs : List Fib) (s : Int) (D : List Int) (to : Nat) : Nat → Nat → List Nat → List Int → Option (List Int) → Option (List Int)
  | 0, _, _, _, o => o
  | k + 1, v, seen, ids, o => if v = to then bst few fs s o ids else if cutR few fs D v ids o then o else (List.range fs.length).foldl (fun o i => match nxQ q fs i v with
    | some u => if u ∈ seen then o else bbL q few fs s D to k u (u :: seen) (ids ++ [(i : Int)]) o
    | none => o) o
section
variable {q : Nat → Bool} {few : Bool} {fs : List Fib} {n to : Nat} {s : Int}
theorem lenR_sum (ids : List Int) : lenR fs ids = (ids.map fun i => (fs.getD i.toNat ⟨0, 0, 0, 0⟩).len).sum := by unfold lenR rlTo; rw [List.take_length]
theorem lenR_app (a b : List Int) : lenR fs (a ++ b) = lenR fs a + lenR fs b := by rw [lenR_sum, lenR_sum, lenR_sum, List.map_append, List.sum_append]
theorem lenR_one (i : Nat) : lenR fs [(i : Int)] = (fibD fs i).len := by rw [lenR_sum]; simp [fibD]
theorem dist_src (he : endsB n fs) (hl : lensB fs) (hs : to < n) : 0 ≤ valL (distL q fs n to) to ∧ valL (distL q fs n to) to ≤ 0 := by
  have key : ∀ k, better (valL (dstRnd q fs n to k) to) (valL (dst0 n to) to) := by
    intro k
    induction k with
    | zero => exact better_refl _
    | succ k ih => exact better_trans (dstPass_better (dstRnd_len k) he hl to) ih
  have h := key n
  rw [dst0_val hs to hs, if_pos rfl] at h
  unfold better at h
  unfold distL
  omega
theorem dist_arc (he : endsB n fs) (hl : lensB fs) (hs : to < n) {i u v : Nat} (hi : i < fs.length) (hq : q i = false) (h : nxF fs i v = some u) (hu : 0 ≤ valL (distL q fs n to) u) :
    0 ≤ valL (distL q fs n to) v ∧ valL (distL q fs n to) v ≤ (fibD fs i).len + valL (distL q fs n to) u := by
  have hf := distL_fixed (q := q) he hl hs
  obtain ⟨h0, h1, h2⟩ := he i hi
  have key : ∀ j, j < 2 * fs.length → j / 2 = i → arcU fs j = u → arcV fs j = v → 0 ≤ valL (distL q fs n to) v ∧ valL (distL q fs n to) v ≤ (fibD fs i).len + valL (distL q fs n to) u := by
    intro j hj hji hU hV
    have hno : ¬ (canB (arcU fs j) (arcV fs j) (arcLn fs j) (distL q fs n to) = true) := fun hx => hf _ ⟨j, hj, by rw [hji]; exact hq, hx, Int.le_refl _⟩
    rw [canB_iff, hU, hV] at hno
    have hL : arcLn fs j = (fibD fs i).len := by unfold arcLn; rw [hji]
    rw [hL] at hno
    omega
  unfold nxF otherF at h
  by_cases ha : (v : Int) = (fibD fs i).a
  · rw [if_pos ha] at h
    rw [if_pos (by omega)] at h
    injection h with h
    refine key (2 * i + 1) (by omega) (by omega) ?_ ?_
    · unfold arcU; rw [if_neg (by omega), show (2 * i + 1) / 2 = i by omega]; exact h
    · unfold arcV; rw [if_neg (by omega), show (2 * i + 1) / 2 = i by omega]; omega
  · rw [if_neg ha] at h
    by_cases hb : (v : Int) = (fibD fs i).b
    · rw [if_pos hb] at h
      rw [if_pos (by omega)] at h
      injection h with h
      refine key (2 * i) (by omega) (by omega) ?_ ?_
      · unfold arcU; rw [if_pos (by omega), show (2 * i) / 2 = i by omega]; exact h
      · unfold arcV; rw [if_pos (by omega), show (2 * i) / 2 = i by omega]; omega
    · rw [if_neg hb] at h
      simp at h
theorem rtsQ_on {k v : Nat} {seen : List Nat} {ids : List Int} (h : v ≠ to) : rtsQ q fs to (k + 1) v seen ids = (List.range fs.length).flatMap fun i => match nxQ q fs i v with
    | some u => if u ∈ seen then [] else rtsQ q fs to k u (u :: seen) (ids ++ [(i : Int)])
    | none => [] := by
  unfold rtsQ
  rw [dfsL, if_neg h]
  rfl
theorem rtsQ_end {k : Nat} {seen : List Nat} {ids : List Int} : rtsQ q fs to (k + 1) to seen ids = [ids] := by unfold rtsQ; rw [dfsL, if_pos rfl]
/-- What is found from v: fibers on, as far at least as the distance says. -/
theorem rtsQ_mem (he : endsB n fs) (hl : lensB fs) (hs : to < n) : ∀ (k v : Nat) (seen : List Nat) (ids : List Int), ∀ r ∈ rtsQ q fs to k v seen ids, ∃ e, r = ids ++ e ∧ (v ≠ to → 1 ≤ e.length) ∧ 0 ≤ valL (distL q fs n to) v ∧ valL (distL q fs n to) v ≤ lenR fs e := by
  intro k
  induction k with
  | zero => intro v seen ids r hr; cases hr
  | succ k ih =>
    intro v seen ids r hr
    by_cases hv : v = to
    · subst hv
      rw [rtsQ_end, List.mem_singleton] at hr
      subst hr
      have := dist_src (q := q) he hl hs
      exact ⟨[], by simp, fun h => absurd rfl h, this.1, this.2⟩
    · rw [rtsQ_on hv] at hr
      obtain ⟨i, hi, hr⟩ := List.mem_flatMap.1 hr
      have hi2 : i < fs.length := by simpa using hi
      split at hr
      · rename_i u hu
        split at hr
        · cases hr
        · obtain ⟨e, rfl, _, h2, h3⟩ := ih _ _ _ r hr
          unfold nxQ at hu
          split at hu
          · cases hu
          · rename_i hq
            have h4 := dist_arc (q := q) he hl hs hi2 (by simpa using hq) hu h2
            refine ⟨[(i : Int)] ++ e, by simp, fun _ => by simp, h4.1, ?_⟩
            rw [lenR_app, lenR_one]
            omega
      · cases hr
theorem cut_worse (he : endsB n fs) (hl : lensB fs) (hs : to < n) {k v : Nat} {seen : List Nat} {ids : List Int} {o : Option (List Int)} (hv : v ≠ to) (h : cutR few fs (distL q fs n to) v ids o = true) : ∀ r ∈ rtsQ q fs to k v seen ids, btR few fs s o r = false := by
  intro r hr
  obtain ⟨e, rfl, h1, h2, h3⟩ := rtsQ_mem he hl hs k v seen ids r hr
  have h1 := h1 hv
  cases o with
  | none => unfold cutR at h; rw [decide_eq_true_eq] at h; omega
  | some b =>
    unfold cutR at h
    unfold btR
    rw [Bool.or_eq_true, Bool.or_eq_true, Bool.and_eq_true, Bool.and_eq_true, decide_eq_true_eq, decide_eq_true_eq, decide_eq_true_eq] at h
    rcases h with (h | h) | h
    · omega
    · have hf : few = false := by simpa using h.1
      subst hf
      simp only [Bool.false_and, Bool.false_eq_true, if_false]
      rw [decide_eq_false_iff_not, ordR_eq, lenR_app]
      rw [if_neg (by omega), if_pos (by omega)]
      omega
    · have hf := h.1
      subst hf
      have hlt : ¬ (ids ++ e).length = b.length := by rw [List.length_append]; omega
      have hx : (true && !((ids ++ e).length == b.length)) = true := by rw [Bool.true_and, Bool.not_eq_true', beq_eq_false_iff_ne]; exact hlt
      show (if (true && !((ids ++ e).length == b.length)) = true then decide ((ids ++ e).length < b.length) else decide (ordR fs s (ids ++ e) s b < 0)) = false
      rw [if_pos hx, decide_eq_false_iff_not, List.length_append]
      omega
theorem bst_stay {o : Option (List Int)} : ∀ (l : List (List Int)), (∀ r ∈ l, btR few fs s o r = false) → l.foldl (bst few fs s) o = o := by
  intro l
  induction l with
  | nil => intro _; rfl
  | cons r l ih =>
    intro h
    have e : bst few fs s o r = o := by unfold bst; rw [h r List.mem_cons_self]; rfl
    rw [List.foldl_cons, e]
    exact ih fun x hx => h x (List.mem_cons_of_mem _ hx)
/-- What is left out changes nothing. -/
theorem bbL_eq (he : endsB n fs) (hl : lensB fs) (hs : to < n) : ∀ (k v : Nat) (seen : List Nat) (ids : List Int) (o : Option (List Int)), bbL q few fs s (distL q fs n to) to k v seen ids o = (rtsQ q fs to k v seen ids).foldl (bst few fs s) o := by
  intro k
  induction k with
  | zero => intro v seen ids o; rfl
  | succ k ih =>
    intro v seen ids o
    by_cases hv : v = to
    · subst hv
      rw [rtsQ_end]
      unfold bbL
      rw [if_pos rfl]
      rfl
    · unfold bbL
      rw [if_neg hv]
      cases hc : cutR few fs (distL q fs n to) v ids o
      · rw [if_neg (by decide), rtsQ_on hv]
        suffices hh : ∀ (is : List Nat) (o : Option (List Int)), is.foldl (fun o i => match nxQ q fs i v with
            | some u => if u ∈ seen then o else bbL q few fs s (distL q fs n to) to k u (u :: seen) (ids ++ [(i : Int)]) o
            | none => o) o = (is.flatMap fun i => match nxQ q fs i v with
            | some u => if u ∈ seen then [] else rtsQ q fs to k u (u :: seen) (ids ++ [(i : Int)])
            | none => []).foldl (bst few fs s) o from hh _ _
        intro is
        induction is with
        | nil => intro o; rfl
        | cons i is ihs =>
          intro o
          rw [List.foldl_cons, List.flatMap_cons, List.foldl_append, ihs]
          congr 1
          cases nxQ q fs i v with
          | none => rfl
          | some u =>
            simp only []
            split
            · rfl
            · exact ih _ _ _ _
      · rw [if_pos rfl, bst_stay _ (cut_worse he hl hs hv hc)]
/-- The order that the search goes by. -/
def le2 (few : Bool) (fs : List Fib) (s : Int) (a b : List Int) : Prop := if few then a.length < b.length ∨ (a.length = b.length ∧ leR fs s a b) else leR fs s a b
theorem le2_refl (a : List Int) : le2 few fs s a a := by
  have h : leR fs s a a := by
    rcases Classical.em (leR fs s a a) with h | h
    · exact h
    · exact leR_total h
  unfold le2; split
  · exact .inr ⟨rfl, h⟩
  · exact h
theorem le2_trans {a b c : List Int} (h1 : le2 few fs s a b) (h2 : le2 few fs s b c) : le2 few fs s a c := by
  unfold le2 at *
  split at h1
  · rename_i hf
    rw [if_pos hf] at *
    rcases h1 with h1 | ⟨h1, h3⟩
    · rcases h2 with h2 | ⟨h2, h4⟩
      · exact .inl (by omega)
      · exact .inl (by omega)
    · rcases h2 with h2 | ⟨h2, h4⟩
      · exact .inl (by omega)
      · exact .inr ⟨by omega, leR_trans h3 h4⟩
  · rename_i hf
    rw [if_neg hf] at *
    exact leR_trans h1 h2
theorem le2_anti {a b : List Int} (h1 : le2 few fs s a b) (h2 : le2 few fs s b a) : a = b := by
  unfold le2 at *
  split at h1
  · rename_i hf
    rw [if_pos hf] at *
    rcases h1 with h1 | ⟨h1, h3⟩
    · rcases h2 with h2 | ⟨h2, h4⟩ <;> omega
    · rcases h2 with h2 | ⟨h2, h4⟩
      · omega
      · exact leR_anti h3 h4
  · rename_i hf
    rw [if_neg hf] at *
    exact leR_anti h1 h2
theorem ordR_turn (a b : List Int) : ordR fs s a s b = -ordR fs s b s a := by
  rw [ordR_eq, ordR_eq]
  have hf := cmpL_flip a b
  repeat' split
  all_goals omega
theorem btR_iff {b r : List Int} : btR few fs s (some b) r = true ↔ ¬ le2 few fs s b r := by
  have hf := ordR_turn (fs := fs) (s := s) r b
  unfold btR le2 leR
  cases few
  · simp only [Bool.false_and, Bool.false_eq_true, if_false, decide_eq_true_eq]
    omega
  · by_cases h : r.length = b.length
    · simp only [h, Bool.true_and, beq_self_eq_true, Bool.not_true, Bool.false_eq_true, if_false, decide_eq_true_eq, if_true]
      constructor
      · rintro h1 (h2 | ⟨_, h2⟩) <;> omega
      · intro h1
        rcases Int.lt_or_le (ordR fs s r s b) 0 with h2 | h2
        · exact h2
        · exact absurd (.inr ⟨by first | trivial | rfl, by omega⟩) h1
    · have h2 : (r.length == b.length) = false := by rw [beq_eq_false_iff_ne]; exact h
      simp only [h2, Bool.true_and, Bool.not_false, if_true, decide_eq_true_eq]
      omega
theorem le2_of_not {a b : List Int} (h : ¬ le2 few fs s a b) : le2 few fs s b a := by
  unfold le2 at *
  split at h
  · rename_i hf
    rw [if_pos hf]
    rcases Nat.lt_trichotomy b.length a.length with h1 | h1 | h1
    · exact .inl h1
    · exact .inr ⟨h1, leR_total fun h2 => h (.inr ⟨h1.symm, h2⟩)⟩
    · exact absurd (.inl h1) h
  · rename_i hf
    rw [if_neg hf]
    exact leR_total h
theorem best_some : ∀ (l : List (List Int)) (b : List Int), ∃ m, l.foldl (bst few fs s) (some b) = some m ∧ (m = b ∨ m ∈ l) ∧ le2 few fs s m b ∧ ∀ x ∈ l, le2 few fs s m x := by
  intro l
  induction l with
  | nil => intro b; exact ⟨b, rfl, .inl rfl, le2_refl b, fun x hx => by cases hx⟩
  | cons r l ih =>
    intro b
    rw [List.foldl_cons]
    by_cases h : le2 few fs s b r
    · have e : bst few fs s (some b) r = some b := by
        unfold bst
        rw [if_neg (fun h2 => btR_iff.1 h2 h)]
      rw [e]
      obtain ⟨m, h1, h2, h3, h4⟩ := ih b
      refine ⟨m, h1, h2.elim .inl (fun x => .inr (List.mem_cons_of_mem _ x)), h3, fun x hx => ?_⟩
      rcases List.mem_cons.1 hx with rfl | hx
      · exact le2_trans h3 h
      · exact h4 x hx
    · have e : bst few fs s (some b) r = some r := by
        unfold bst
        rw [if_pos (btR_iff.2 h)]
      rw [e]
      obtain ⟨m, h1, h2, h3, h4⟩ := ih r
      refine ⟨m, h1, .inr (h2.elim (fun x => by rw [x]; exact List.mem_cons_self) (fun x => List.mem_cons_of_mem _ x)), le2_trans h3 (le2_of_not h), fun x hx => ?_⟩
      rcases List.mem_cons.1 hx with rfl | hx
      · exact h3
      · exact h4 x hx
theorem best_of (l : List (List Int)) : (l = [] ∧ l.foldl (bst few fs s) none = none) ∨ ∃ m, l.foldl (bst few fs s) none = some m ∧ m ∈ l ∧ ∀ x ∈ l, le2 few fs s m x := by
  cases l with
  | nil => exact .inl ⟨rfl, rfl⟩
  | cons r l =>
    obtain ⟨m, h1, h2, h3, h4⟩ := best_some (few := few) (fs := fs) (s := s) l r
    refine .inr ⟨m, h1, ?_, fun x hx => ?_⟩
    · rcases h2 with rfl | h2
      · exact List.mem_cons_self
      · exact List.mem_cons_of_mem _ h2
    · rcases List.mem_cons.1 hx with rfl | hx
      · exact h3
      · exact h4 x hx
/-- A route that uses no fiber of q. -/
def avQ (q : Nat → Bool) (r : List Int) : Bool := r.all fun x => !q x.toNat
theorem rtsQ_filter : ∀ (k v : Nat) (seen : List Nat) (ids : List Int), avQ q ids = true → rtsQ q fs to k v seen ids = (rtsL fs to k v seen ids).filter (avQ q) := by
  intro k
  induction k with
  | zero => intro v seen ids _; rfl
  | succ k ih =>
    intro v seen ids h
    by_cases hv : v = to
    · subst hv
      rw [rtsQ_end, rtsL_end, List.filter_cons, h]
      rfl
    · rw [rtsQ_on hv, rtsL_on hv]
      unfold rtsJ
      rw [List.filter_flatMap]
      congr 1
      funext i
      unfold nxQ rtsI
      cases hq : q i
      · simp only [Bool.false_eq_true, if_false]
        cases nxF fs i v with
        | none => rfl
        | some u =>
          simp only []
          split
          · rfl
          · refine ih _ _ _ ?_
            unfold avQ at *
            rw [List.all_append, h]
            simp [hq]
      · simp only [if_true]
        cases nxF fs i v with
        | none => rfl
        | some u =>
          simp only []
          split
          · rfl
          · symm
            rw [List.filter_eq_nil_iff]
            intro r hr
            obtain ⟨e, rfl, _⟩ := rtsL_mem _ _ _ _ r hr
            unfold avQ
            rw [List.all_append, List.all_append]
            simp [hq]
theorem find_least {p : List Int → Bool} : ∀ {l : List (List Int)} {r : List Int}, l.Pairwise (leR fs s) → l.find? p = some r → ∀ y ∈ l, p y = true → leR fs s r y := by
  intro l
  induction l with
  | nil => intro r _ h; cases h
  | cons x l ih =>
    intro r hp h y hy hpy
    rw [List.pairwise_cons] at hp
    rw [List.find?_cons] at h
    cases hx : p x
    · rw [hx] at h
      rcases List.mem_cons.1 hy with rfl | hy
      · rw [hx] at hpy; cases hpy
      · exact ih hp.2 h y hy hpy
    · rw [hx] at h
      injection h with h
      subst h
      rcases List.mem_cons.1 hy with rfl | hy
      · have := le2_refl (few := false) (fs := fs) (s := s) y
        unfold le2 at this
        simpa using this
      · exact hp.1 y hy
/-- The first in the order of all routes that hold: the best of them. -/
theorem best_first (D : List (List Int)) (p : List Int → Bool) : (D.filter p).foldl (bst false fs s) none = (srtR fs s D).find? p := by
  have hs := srtR_ok (fs := fs) (s := s) D
  rcases best_of (few := false) (fs := fs) (s := s) (D.filter p) with ⟨h1, h2⟩ | ⟨m, h1, h2, h3⟩
  · rw [h2]
    symm
    rw [List.find?_eq_none]
    intro x hx hpx
    have : x ∈ D.filter p := List.mem_filter.2 ⟨hs.2.mem_iff.1 hx, hpx⟩
    rw [h1] at this
    cases this
  · rw [h1]
    obtain ⟨hm, hpm⟩ := List.mem_filter.1 h2
    cases hf : (srtR fs s D).find? p with
    | none => exact absurd hpm (List.find?_eq_none.1 hf m (hs.2.mem_iff.2 hm))
    | some r =>
      have hr1 := List.mem_of_find?_eq_some hf
      have hr2 := List.find?_some hf
      have a1 : leR fs s r m := find_least hs.1 hf m (hs.2.mem_iff.2 hm) hpm
      have a2 : le2 false fs s m r := h3 r (List.mem_filter.2 ⟨hs.2.mem_iff.1 hr1, hr2⟩)
      unfold le2 at a2
      rw [leR_anti a1 (by simpa using a2)]
/-- The first of the fewest, as MinFunc goes. -/
def mnF (o : Option (List Int)) (r : List Int) : Option (List Int) := match o with
  | none => some r
  | some b => if r.length < b.length then some r else some b
def mnO (l : List (List Int)) : Option (List Int) := l.foldl mnF none
theorem mnF_some : ∀ (l : List (List Int)) (b : List Int), (∀ x ∈ l, leR fs s b x) → l.Pairwise (leR fs s) → ∃ m, l.foldl mnF (some b) = some m ∧ (m = b ∨ m ∈ l) ∧ le2 true fs s m b ∧ ∀ x ∈ l, le2 true fs s m x := by
  intro l
  induction l with
  | nil => intro b _ _; exact ⟨b, rfl, .inl rfl, le2_refl b, fun x hx => by cases hx⟩
  | cons r l ih =>
    intro b hb hp
    rw [List.pairwise_cons] at hp
    rw [List.foldl_cons]
    by_cases h : r.length < b.length
    · have e : mnF (some b) r = some r := by unfold mnF; simp [h]
      rw [e]
      obtain ⟨m, h1, h2, h3, h4⟩ := ih r hp.1 hp.2
      have hrb : le2 true fs s r b := .inl h
      refine ⟨m, h1, .inr (h2.elim (fun x => by rw [x]; exact List.mem_cons_self) (fun x => List.mem_cons_of_mem _ x)), le2_trans h3 hrb, fun x hx => ?_⟩
      rcases List.mem_cons.1 hx with rfl | hx
      · exact h3
      · exact h4 x hx
    · have e : mnF (some b) r = some b := by unfold mnF; simp [h]
      rw [e]
      obtain ⟨m, h1, h2, h3, h4⟩ := ih b (fun x hx => hb x (List.mem_cons_of_mem _ hx)) hp.2
      have hbr : le2 true fs s b r := by
        show b.length < r.length ∨ _
        rcases Nat.lt_or_ge b.length r.length with h5 | h5
        · exact .inl h5
        · exact .inr ⟨by omega, hb r List.mem_cons_self⟩
      refine ⟨m, h1, h2.elim .inl (fun x => .inr (List.mem_cons_of_mem _ x)), h3, fun x hx => ?_⟩
      rcases List.mem_cons.1 hx with rfl | hx
      · exact le2_trans h3 hbr
      · exact h4 x hx
theorem best_few (D : List (List Int)) : D.foldl (bst true fs s) none = mnO (srtR fs s D) := by
  have hs := srtR_ok (fs := fs) (s := s) D
  unfold mnO
  rcases best_of (few := true) (fs := fs) (s := s) D with ⟨h1, h2⟩ | ⟨m, h1, h2, h3⟩
  · subst h1; rfl
  · rw [h1]
    cases hl : srtR fs s D with
    | nil => rw [hl] at hs; exact absurd (hs.2.mem_iff.2 h2) (by simp)
    | cons r l =>
      rw [hl] at hs
      have hp := List.pairwise_cons.1 hs.1
      obtain ⟨m2, g1, g2, g3, g4⟩ := mnF_some l r hp.1 hp.2
      show some m = l.foldl mnF (some r)
      rw [g1]
      have hm2 : m2 ∈ D := hs.2.mem_iff.1 (by
        rcases g2 with rfl | g2
        · exact List.mem_cons_self
        · exact List.mem_cons_of_mem _ g2)
      have hm : le2 true fs s m2 m := by
        rcases List.mem_cons.1 (hs.2.mem_iff.2 h2) with h | h
        · rw [h]; exact g3
        · exact g4 m h
      rw [le2_anti (h3 m2 hm2) hm]
end
end Go.Proofs.YtgoegldffjfmdaaGreat
/- l4Search.put of the reference, walked. Conditions: none. By put.py. -/
namespace Go.Proofs.YtgoegldffjfmdaaGreat
open Go.RowKit
/-- Three things as one. -/
theorem Led.fuse3 {w0 w : World} {a b c t : Thing} {R : List Thing} (h : Led w0 w (a :: b :: c :: R)) (hS : ∀ k, t.S k → a.S k ∨ b.S k ∨ c.S k) (his : t.is w) : Led w0 w (t :: R) := by
  refine ⟨h.bl, fun i u hu => ?_, fun i j u v hij hu hv k h1 h2 => ?_⟩
  · match i, hu with
    | 0, hu =>
      injection hu with hu; subst hu
      refine ⟨his, fun k hk => ?_⟩
      rcases hS k hk with e | e | e
      · exact (h.all 0 a rfl).2 k e
      · exact (h.all 1 b rfl).2 k e
      · exact (h.all 2 c rfl).2 k e
    | i + 1, hu => exact h.all (i + 3) u (by simpa using hu)
  · have key : ∀ (i : Nat) u, R[i]? = some u → ∀ k, t.S k → ¬ u.S k := fun i u hu k hk h2 => by
      rcases hS k hk with e | e | e
      · exact h.apart 0 (i + 3) a u (by omega) rfl (by simpa using hu) k e h2
      · exact h.apart 1 (i + 3) b u (by omega) rfl (by simpa using hu) k e h2
      · exact h.apart 2 (i + 3) c u (by omega) rfl (by simpa using hu) k e h2
    match i, j, hu, hv with
    | 0, 0, hu, hv => exact hij rfl
    | 0, j + 1, hu, hv =>
      injection hu with hu; subst hu
      exact key j v (by simpa using hv) k h1 h2
    | i + 1, 0, hu, hv =>
      injection hv with hv; subst hv
      exact key i u (by simpa using hu) k h2 h1
    | i + 1, j + 1, hu, hv => exact h.apart (i + 3) (j + 3) u v (by omega) (by simpa using hu) (by simpa using hv) k h1 h2
theorem Led.front {w0 w : World} {P R : List Thing} (h : Led w0 w (P ++ R)) (is : List Nat) (hn : is.Nodup) (he : is.all (fun i => decide (i < P.length)) = true) : Led w0 w ((is.filterMap fun i => P[i]?) ++ R) := by
  have hm : is.map (fun i => P[i]?) = (is.filterMap fun i => P[i]?).map some := by
    clear hn
    induction is with
    | nil => rfl
    | cons x is ih =>
      rw [List.all_cons, Bool.and_eq_true, decide_eq_true_eq] at he
      rw [List.map_cons, List.filterMap_cons, List.getElem?_eq_getElem he.1, ih he.2]
      rfl
  have hlen : (is.filterMap fun i => P[i]?).length = is.length := by have := congrArg List.length hm; simp at this; omega
  have hlt : ∀ i, i < is.length → is.getD i 0 < P.length := fun i hi => by
    have := List.all_eq_true.1 he (is.getD i 0) (by rw [List.getD_eq_getElem?_getD, List.getElem?_eq_getElem hi]; exact List.getElem_mem hi)
    exact of_decide_eq_true this
  refine h.reidx (fun i => if i < is.length then is.getD i 0 else i - is.length + P.length) (fun i j hij => ?_) (fun i t hi => ?_)
  · show (if i < is.length then is.getD i 0 else i - is.length + P.length) ≠ (if j < is.length then is.getD j 0 else j - is.length + P.length)
    split
    · rename_i h1
      split
      · rename_i h2
        intro e
        rw [List.getD_eq_getElem?_getD, List.getD_eq_getElem?_getD, List.getElem?_eq_getElem h1, List.getElem?_eq_getElem h2] at e
        have e2 : is[i] = is[j] := e
        exact hij ((List.getElem?_inj h1 hn).1 (by rw [List.getElem?_eq_getElem h1, List.getElem?_eq_getElem h2, e2]))
      · have := hlt i h1; omega
    · split
      · rename_i h2
        have := hlt j h2; omega
      · omega
  · rcases Nat.lt_or_ge i is.length with h1 | h1
    · rw [if_pos h1, List.getElem?_append_left (hlt i h1)]
      rw [List.getElem?_append_left (by omega)] at hi
      have h2 : (is.map (fun i => P[i]?))[i]? = some (some t) := by rw [hm, List.getElem?_map, hi]; rfl
      rw [List.getElem?_map, List.getElem?_eq_getElem h1] at h2
      injection h2 with h2
      rw [List.getD_eq_getElem?_getD, List.getElem?_eq_getElem h1]
      exact h2
    · rw [if_neg (by omega), List.getElem?_append_right (by omega), show i - is.length + P.length - P.length = i - is.length by omega]
      rw [List.getElem?_append_right (by omega), hlen] at hi
      exact hi
theorem putAt_map {α β : Type} (f : α → β) (l : List α) (p : Nat) (r : α) : (putAt l p r).map f = putAt (l.map f) p (f r) := by
  unfold putAt
  rw [List.map_append, List.map_cons, List.map_take, List.map_drop]
theorem putAt_get {α : Type} {l : List α} {p i : Nat} {r x : α} (hp : p ≤ l.length) (h : (putAt l p r)[i]? = some x) : (i < p ∧ l[i]? = some x) ∨ (i = p ∧ x = r) ∨ (p < i ∧ l[i - 1]? = some x) := by
  unfold putAt at h
  have hl : (l.take p).length = p := by rw [List.length_take]; omega
  rcases Nat.lt_trichotomy i p with h1 | h1 | h1
  · rw [List.getElem?_append_left (by omega), List.getElem?_take, if_pos h1] at h
    exact .inl ⟨h1, h⟩
  · rw [List.getElem?_append_right (by omega), hl, h1, Nat.sub_self] at h
    simp at h
    exact .inr (.inl ⟨h1, h.symm⟩)
  · rw [List.getElem?_append_right (by omega), hl] at h
    obtain ⟨d, hd⟩ : ∃ d, i - p = d + 1 := ⟨i - p - 1, by omega⟩
    rw [hd, List.getElem?_cons_succ, List.getElem?_drop] at h
    exact .inr (.inr ⟨h1, by rw [show i - 1 = p + d by omega]; exact h⟩)
/-- A new row that holds the old routes and one more. -/
theorem Led.relist {w0 w : World} {base b b2 : Nat} {V V2 : Value} {ss : List (Int × Sl)} {rows : List (Int × List Int)} {s0 : Int × Sl} {r0 : Int × List Int} {p : Nat} {R : List Thing} (h : Led w0 w (tOwns elRt b2 29 V2 (putAt ss p s0) :: tOwns elInt b 3 (slV s0.2) r0.2 :: tRS base V ss rows :: R)) (hp : p ≤ ss.length) (h0 : s0.1 = r0.1) (hb : base ≤ b) (hb2 : base ≤ b2) :
    Led w0 w (tRS base V2 (putAt ss p s0) (putAt rows p r0) :: R) := by
  have hO : OwnsRS w base V ss rows := h.get 2 rfl
  have hN : Owns elRt w b2 29 V2 (putAt ss p s0) := h.get 0 rfl
  have hR : Owns elInt w b 3 (slV s0.2) r0.2 := h.get 1 rfl
  have ap : ∀ (i : Nat) s g, ss[i]? = some s → (slV s.2).ownBlock = some g → ¬ (slV s0.2).ownBlock = some g := fun i s g hs hg e => h.apart 2 1 _ _ (by decide) rfl rfl g (.inr ⟨i, s, hs, hg⟩) e
  refine h.fuse3 (fun k hk => ?_) ⟨hN.base hb2, by rw [putAt_len, putAt_len, hO.2.1], fun i s r h1 h2 => ?_, fun i j s t g hij h1 h2 h3 h4 => ?_⟩
  · rcases hk with hk | ⟨i, s, hs, hk⟩
    · exact .inl hk
    · rcases putAt_get hp hs with ⟨_, e⟩ | ⟨_, e⟩ | ⟨_, e⟩
      · exact .inr (.inr (.inr ⟨i, s, e, hk⟩))
      · subst e; exact .inr (.inl hk)
      · exact .inr (.inr (.inr ⟨i - 1, s, e, hk⟩))
  · have hp2 : p ≤ rows.length := by rw [← hO.2.1]; exact hp
    rcases putAt_get hp h1 with ⟨a1, e⟩ | ⟨a1, e⟩ | ⟨a1, e⟩
    · rcases putAt_get hp2 h2 with ⟨_, e2⟩ | ⟨a2, _⟩ | ⟨a2, _⟩
      · exact hO.2.2.1 i s r e e2
      · omega
      · omega
    · rcases putAt_get hp2 h2 with ⟨a2, _⟩ | ⟨_, e2⟩ | ⟨a2, _⟩
      · omega
      · subst e; subst e2; exact ⟨h0, hR.base hb⟩
      · omega
    · rcases putAt_get hp2 h2 with ⟨a2, _⟩ | ⟨a2, _⟩ | ⟨_, e2⟩
      · omega
      · omega
      · exact hO.2.2.1 (i - 1) s r e e2
  · rcases putAt_get hp h1 with ⟨a1, e⟩ | ⟨a1, e⟩ | ⟨a1, e⟩
    · rcases putAt_get hp h2 with ⟨a2, e2⟩ | ⟨a2, e2⟩ | ⟨a2, e2⟩
      · exact hO.2.2.2 i j s t g hij e e2 h3 h4
      · subst e2; exact ap i s g e h3 h4
      · exact hO.2.2.2 i (j - 1) s t g (by omega) e e2 h3 h4
    · rcases putAt_get hp h2 with ⟨a2, e2⟩ | ⟨a2, e2⟩ | ⟨a2, e2⟩
      · omega
      · omega
      · subst e; exact ap (j - 1) t g e2 h4 h3
    · rcases putAt_get hp h2 with ⟨a2, e2⟩ | ⟨a2, e2⟩ | ⟨a2, e2⟩
      · omega
      · omega
      · exact hO.2.2.2 (i - 1) (j - 1) s t g (by omega) e e2 h3 h4
theorem Led.seesRS {w0 w : World} {L : List Thing} {base n c : Nat} {A : Option Addr} {ss : List (Int × Sl)} {rows : List (Int × List Int)} (h : Led w0 w L) (i : Nat) (hi : L[i]? = some (tRS base (.slice A n c) ss rows)) : Sees elRt w w.heap.size A n ss := by
  have h1 : OwnsRS w base _ ss rows := h.get i hi
  have h2 := h1.sees.1
  rw [rs_n h i hi] at h2
  exact h2
theorem Sees.backR {α : Type} {E : El α} {w : World} {B b o n k : Nat} {l : List α} (h : Sees E w B (some ⟨b, o, none⟩) n l) (hk : k ≤ n) : Sees E w B (some ⟨b, o + k * E.sz, none⟩) (n - k) (l.drop k) := by
  refine ⟨by rw [List.length_drop, h.1], ?_⟩
  rcases h.2 with h0 | ⟨b', o', e, hb, hc⟩
  · exact .inl (by omega)
  · injection e with e
    injection e with e1 e2
    subst e1 e2
    refine .inr ⟨b, _, rfl, hb, fun j x hx i u hu => ?_⟩
    rw [List.getElem?_drop] at hx
    have h1 := hc (k + j) x hx i u hu
    have e : o + (k + j) * E.sz + i = o + k * E.sz + j * E.sz + i := by rw [Nat.add_mul]; omega
    rw [← e]; exact h1
theorem Sees.backZ {α : Type} {E : El α} {w : World} {B n k : Nat} {A A2 : Option Addr} {l : List α} (h : Sees E w B A n l) (hk : n - k = 0) : Sees E w B A2 0 (l.drop k) :=
  ⟨by rw [List.length_drop, h.1, hk], .inl rfl⟩
theorem sees_rt {w : World} {g : Nat} {s : Int} {B : Option Addr} {k e : Nat} (h : Blk w g 29 #[.int .i64 s, .slice B k e]) : Sees elRt w w.heap.size (some ⟨g, 0, none⟩) 1 [(s, (⟨B, k, e⟩ : Sl))] := by
  refine ⟨rfl, .inr ⟨g, 0, rfl, h.lt, fun j y hy i u hu => ?_⟩⟩
  have hj : j = 0 := by have := (List.getElem?_eq_some_iff.1 hy).1; simp at this; omega
  subst hj
  simp at hy; subst hy
  have hu' : [Value.int .i64 s, .slice B k e][i]? = some u := hu
  show w.cell? ⟨g, 0 + 0 * 2 + i, none⟩ = some u
  rw [show 0 + 0 * 2 + i = i by omega, h.cell]
  simpa using hu'
section
variable {w0 : World} {n c m d gx : Nat} {A A' : Option Addr} {xs : List ByteArray} {fs : List Fib} {s to : Nat}
def srX (A : Option Addr) (n c : Nat) (A' : Option Addr) (m d to : Nat) (V : Value) : Array Value := #[.slice A n c, .slice A' m d, .int .i64 (to : Int), V]
/-- The boxes of put stand. -/
def ptS (w0 : World) (gx gr : Nat) (A : Option Addr) (n c : Nat) (A' : Option Addr) (m d to s : Nat) (V : Value) (B : Option Addr) (k e : Nat) (w' : World) : Prop := Led w0 w' [tBlk gr 29 #[.int .i64 (s : Int), .slice B k e], tBlk gx 0 (srX A n c A' m d to V)]
theorem ptS_of {w : World} {L : List Thing} {gr k e : Nat} {V : Value} {B : Option Addr} (h : Led w0 w L) (i j : Nat) (hi : L[i]? = some (tBlk gr 29 #[.int .i64 (s : Int), .slice B k e])) (hj : L[j]? = some (tBlk gx 0 (srX A n c A' m d to V))) (hij : i ≠ j) : ptS w0 gx gr A n c A' m d to s V B k e w :=
  h.reidx (fun q => if q = 0 then i else if q = 1 then j else q + i + j) (fun p q hpq => by
    show (if p = 0 then i else if p = 1 then j else p + i + j) ≠ (if q = 0 then i else if q = 1 then j else q + i + j)
    repeat' split
    all_goals omega) (fun q t hq => by
    match q, hq with
    | 0, hq => injection hq with hq; subst hq; exact hi
    | 1, hq => injection hq with hq; subst hq; exact hj
    | q + 2, hq => simp at hq)
theorem mem_ptS {w : World} {gr k e : Nat} {V : Value} {B : Option Addr} {x y : Thing} {R : List Thing} (h : Led w0 w (tBlk gr 29 #[.int .i64 (s : Int), .slice B k e] :: x :: y :: tBlk gx 0 (srX A n c A' m d to V) :: R)) : ptS w0 gx gr A n c A' m d to s V B k e w :=
  h.reidx (fun i => if i = 0 then 0 else i + 2) (fun i j hij => by
    show (if i = 0 then 0 else i + 2) ≠ (if j = 0 then 0 else j + 2)
    repeat' split
    all_goals omega) (fun i t hi => by
    match i, hi with
    | 0, hi => exact hi
    | 1, hi => exact hi
    | i + 2, hi => simp at hi)
end
end Go.Proofs.YtgoegldffjfmdaaGreat
/- l4Search.extend of the reference, walked. Conditions: none. By sext.py. -/
namespace Go.Proofs.YtgoegldffjfmdaaGreat
open Go.RowKit
/-- The reference's search, at most 200 and one. -/
def rfL (fs : List Fib) (s to k v : Nat) (seen : List Nat) (ids : List Int) (l : List (List Int)) : List (List Int) := refL fs.length to 200 (nxF fs) (insR fs (s : Int)) k v seen ids l
def rfF (fs : List Fib) (s to k v : Nat) (seen : List Nat) (ids : List Int) (l : List (List Int)) (i : Nat) : List (List Int) := if l.length ≤ 200 then (match nxF fs i v with
  | some u => if u ∈ seen then l else rfL fs s to k u (u :: seen) (ids ++ [(i : Int)]) l
  | none => l) else l
def rfJ (fs : List Fib) (s to k v : Nat) (seen : List Nat) (ids : List Int) (l : List (List Int)) (j : Nat) : List (List Int) := (List.range j).foldl (rfF fs s to k v seen ids) l
def okL (fs : List Fib) (n : Nat) (l : List (List Int)) : Prop := l.length ≤ 201 ∧ ∀ r ∈ l, r.length ≤ n ∧ ∀ x ∈ r, 0 ≤ x ∧ x < fs.length
def seenI (seen : List Nat) : List Int := seen.reverse.map fun u : Nat => (u : Int)
theorem seenI_len (seen : List Nat) : (seenI seen).length = seen.length := by unfold seenI; rw [List.length_map, List.length_reverse]
theorem seenI_cons (q : Nat) (seen : List Nat) : seenI (q :: seen) = seenI seen ++ [(q : Int)] := by unfold seenI; simp
theorem seenI_mem {q : Nat} {seen : List Nat} : (q : Int) ∈ seenI seen ↔ q ∈ seen := by
  unfold seenI
  rw [List.mem_map]
  constructor
  · rintro ⟨u, hu, e⟩
    have : u = q := by omega
    subst this
    exact List.mem_reverse.1 hu
  · exact fun h => ⟨q, List.mem_reverse.2 h, rfl⟩
theorem sees_in {w : World} {g : Nat} {x : Int} (h : Blk w g 3 #[.int .i64 x]) : Sees elInt w w.heap.size (some ⟨g, 0, none⟩) 1 [x] := by
  refine ⟨rfl, .inr ⟨g, 0, rfl, h.lt, fun j y hy i u hu => ?_⟩⟩
  have hj : j = 0 := by have := (List.getElem?_eq_some_iff.1 hy).1; simp at this; omega
  subst hj
  simp at hy; subst hy
  have hu' : [Value.int .i64 x][i]? = some u := hu
  show w.cell? ⟨g, 0 + 0 * 1 + i, none⟩ = some u
  rw [show 0 + 0 * 1 + i = i by omega, h.cell]
  simpa using hu'
section
variable {fs : List Fib} {s to k v : Nat} {seen : List Nat} {ids : List Int} {l : List (List Int)}
theorem rfL_end : rfL fs s to (k + 1) to seen ids l = insR fs (s : Int) l ids := by unfold rfL refL; rw [if_pos rfl]
theorem rfL_on (h : v ≠ to) : rfL fs s to (k + 1) v seen ids l = rfJ fs s to k v seen ids l fs.length := by
  unfold rfL rfJ
  rw [refL, if_neg h]
  rfl
theorem rfJ_succ (j : Nat) : rfJ fs s to k v seen ids l (j + 1) = rfF fs s to k v seen ids (rfJ fs s to k v seen ids l j) j := by
  unfold rfJ
  rw [List.range_succ, List.foldl_append]
  rfl
theorem rfF_none {i : Nat} (h : otherF (fibD fs i) (v : Int) < 0) : rfF fs s to k v seen ids l i = l := by
  unfold rfF; rw [nxF_none h]; split <;> rfl
theorem rfF_seen {i u : Nat} (h : otherF (fibD fs i) (v : Int) = (u : Int)) (hs : u ∈ seen) : rfF fs s to k v seen ids l i = l := by
  unfold rfF; rw [nxF_some h]; simp [hs]
theorem rfF_on {i u : Nat} (h : otherF (fibD fs i) (v : Int) = (u : Int)) (hs : ¬ u ∈ seen) (hl : l.length ≤ 200) : rfF fs s to k v seen ids l i = rfL fs s to k u (u :: seen) (ids ++ [(i : Int)]) l := by
  unfold rfF; rw [nxF_some h]; simp [hs, hl]
theorem rfF_stop {i : Nat} (hl : 200 < l.length) : rfF fs s to k v seen ids l i = l := by
  unfold rfF; rw [if_neg (by omega)]
theorem rfJ_stop {j m : Nat} (h : 200 < (rfJ fs s to k v seen ids l j).length) (hj : j ≤ m) : rfJ fs s to k v seen ids l m = rfJ fs s to k v seen ids l j := by
  obtain ⟨d, rfl⟩ := Nat.exists_eq_add_of_le hj
  clear hj
  induction d with
  | zero => rfl
  | succ d ih => rw [Nat.add_succ, rfJ_succ, rfF_stop (by rw [ih]; exact h), ih]
theorem insR_mem {D l : List (List Int)} : ∀ r ∈ D.foldl (insR fs (s : Int)) l, r ∈ D ∨ r ∈ l := by
  induction D generalizing l with
  | nil => exact fun r h => .inr h
  | cons x D ih =>
    intro r hr
    rcases ih r hr with h | h
    · exact .inl (List.mem_cons_of_mem _ h)
    · rcases List.mem_cons.1 ((insR_perm l x).mem_iff.1 h) with h | h
      · exact .inl (h ▸ List.mem_cons_self)
      · exact .inr h
theorem rfL_ok {n : Nat} (hl : okL fs n l) (h2 : l.length ≤ 200) (hi : ids.length + k ≤ n) (h3 : ∀ x ∈ ids, 0 ≤ x ∧ x < fs.length) : okL fs n (rfL fs s to k v seen ids l) := by
  unfold rfL
  rw [refL_eq (fun l r => insR_len l r) _ _ _ _ _ h2]
  refine ⟨?_, fun r hr => ?_⟩
  · rw [ins_foldl (fun l r => insR_len l r), List.length_take]; omega
  · rcases insR_mem r hr with h | h
    · obtain ⟨e, rfl, h5, h6⟩ := rtsL_mem (fs := fs) k v seen ids r (List.mem_of_mem_take h)
      refine ⟨by rw [List.length_append]; omega, fun x hx => ?_⟩
      rcases List.mem_append.1 hx with hx | hx
      · exact h3 x hx
      · exact h6 x hx
    · exact hl.2 r h
end
section
variable {w0 : World} {n c m d gx : Nat} {A A' : Option Addr} {xs : List ByteArray} {fs : List Fib} {s to : Nat}
/-- The box of the route stands. -/
def sxS (w0 : World) (gr s : Nat) (B : Option Addr) (k e : Nat) (w' : World) : Prop := Led w0 w' [tBlk gr 29 #[.int .i64 (s : Int), .slice B k e]]
theorem sxS_of {w : World} {L : List Thing} {gr k e : Nat} {B : Option Addr} (h : Led w0 w L) (i : Nat) (hi : L[i]? = some (tBlk gr 29 #[.int .i64 (s : Int), .slice B k e])) : sxS w0 gr s B k e w :=
  h.reidx (fun q => i + q) (fun p q hpq => by omega) (fun q t hq => by
    match q, hq with
    | 0, hq => injection hq with hq; subst hq; exact hi
    | q + 1, hq => simp at hq)
end
end Go.Proofs.YtgoegldffjfmdaaGreat
/- l5Best.better of the reference, walked. Conditions: none. By bbs.py. -/
namespace Go.Proofs.YtgoegldffjfmdaaGreat
open Go.RowKit
/-- The search's box. -/
def bxX (A : Option Addr) (n c : Nat) (A' : Option Addr) (m d to : Nat) (G : Option Addr) (gk cg : Nat) (Dl : Option Addr) (cd : Nat) (few : Bool) (s : Int) (o : Option (List Int)) (RV : Value) : Array Value := #[.slice A n c, .slice A' m d, .int .i64 (to : Int), .slice G gk cg, .slice Dl n cd, .bool few, .bool o.isSome, .int .i64 (frS o s), RV]
theorem btR_two {few : Bool} {fs : List Fib} {s : Int} {b r : List Int} : btR few fs s (some b) r = if few && !(r.length == b.length) then decide (r.length < b.length) else decide (ordR fs s r s b < 0) := rfl
def okO (fs : List Fib) (n : Nat) (o : Option (List Int)) : Prop := ∀ r, o = some r → r.length ≤ n ∧ ∀ x ∈ r, 0 ≤ x ∧ x < fs.length
section
variable {w0 : World} {n c m d gx gk cg cd : Nat} {A A' G Dl : Option Addr} {xs : List ByteArray} {fs : List Fib} {s to : Nat}
set_option maxHeartbeats 4000000 in
set_option maxRecDepth 100000 in
theorem better_any (hn : NetIs w0 A n c A' m d xs fs) (hG : goodB xs fs = true) (hs8 : s ≤ 1048576) (few : Bool) {o : Option (List Int)} {ids : List Int} {RV : Value} {R : List Thing} {B : Option Addr} {e b b2 : Nat} {w : World} (hids : ids.length ≤ 1048576 ∧ ∀ x ∈ ids, 0 ≤ x ∧ x < fs.length) (hok : okO fs n o)
    (h : Led w0 w (tOwns elInt b 3 (.slice B ids.length e) ids :: tOwns elInt b2 3 RV (frL o) :: tBlk gx 86 (bxX A n c A' m d to G gk cg Dl cd few (s : Int) o RV) :: R)) :
    Calls Tryz.prog 87 #[.pointer (some ⟨gx, 0, none⟩), .agg #[.int .i64 (s : Int), .slice B ids.length e]] w fun e' w' => e' = .returned (.bool (btR few fs (s : Int) o ids)) ∧ Below w.heap.size w w' := by
  obtain ⟨he, hn0, hn8, hm14⟩ := good_parts hn hG
  have H0 := hid (h.blk_ w.heap.size rfl 29 #[.int .i64 (s : Int), .slice B ids.length e])
  have HB0 := hid (bl_alloc (Below.refl w.heap.size w) (.cells #[.int .i64 (s : Int), .slice B ids.length e] 29))
  obtain ⟨hie, hii⟩ : ids.length ≤ e ∧ True := ⟨by
    obtain ⟨A1, c1, hv, hc1⟩ := h.form 0 rfl
    injection hv with _ _ e3
    rw [e3]; exact hc1, trivial⟩
  obtain ⟨RA, rc, hRV, hrc⟩ := h.form 1 rfl
  subst hRV
  have HN := hid hn
  have HG := hid hG
  have HIDS := hid hids.2
  have hi1 := hids.1
  clear h hn he hids hii
  unfold bxX at H0
  cases o with
  | none =>
    have p6 := H0.out.cell 3 6 rfl rfl
    go_enter Tryz.func87, Tryz.ntmps87
    go_wp2_with fail
    go_ret
    exact ⟨rfl, HB0.out⟩
  | some r =>
    have hok2 := hok r rfl
    have HOK := hid hok2.2
    have hrn := hok2.1
    clear hok hok2
    have hF : frL (some r) = r := rfl
    have hF2 : frS (some r) (s : Int) = (s : Int) := rfl
    rw [hF] at hrc
    rw [hF, hF2] at H0
    clear hF hF2
    have p6 := H0.out.cell 3 6 rfl rfl
    have HC : Hid (∀ w', Cls (w.alloc (.cells #[.int .i64 (s : Int), .slice B ids.length e] 29)) w' → Calls Tryz.prog 106 #[.agg #[.slice A n c, .slice A' m d], .agg #[.int .i64 (s : Int), .slice B ids.length e], .agg #[.int .i64 (s : Int), .slice RA r.length rc]] w' fun e w2 => e = .returned (.int .i64 (ordR fs (s : Int) ids (s : Int) r)) ∧ Below w'.heap.size w' w2) := fun w' hw' =>
      l4Compare_any w' (HN.out.grow (H0.out.step hw').bl) ⟨⟨hie, hi1⟩, (H0.out.step hw').seesI 1 rfl⟩ ⟨⟨hrc, by omega⟩, (H0.out.step hw').seesI 2 rfl⟩ (goodB_lens HG.out) HIDS.out HOK.out ⟨by omega, by omega⟩ ⟨by omega, by omega⟩
    have C0 : ∀ w', Cls (w.alloc (.cells #[.int .i64 (s : Int), .slice B ids.length e] 29)) w' → w'.cell? ⟨gx, 0, none⟩ = some (.slice A n c) := fun _ h => h.cell (H0.out.cell 3 0 rfl rfl)
    have C1 : ∀ w', Cls (w.alloc (.cells #[.int .i64 (s : Int), .slice B ids.length e] 29)) w' → w'.cell? ⟨gx, 1, none⟩ = some (.slice A' m d) := fun _ h => h.cell (H0.out.cell 3 1 rfl rfl)
    have C5 : ∀ w', Cls (w.alloc (.cells #[.int .i64 (s : Int), .slice B ids.length e] 29)) w' → w'.cell? ⟨gx, 5, none⟩ = some (.bool few) := fun _ h => h.cell (H0.out.cell 3 5 rfl rfl)
    have C7 : ∀ w', Cls (w.alloc (.cells #[.int .i64 (s : Int), .slice B ids.length e] 29)) w' → w'.cell? ⟨gx, 7, none⟩ = some (.int .i64 (s : Int)) := fun _ h => h.cell (H0.out.cell 3 7 rfl rfl)
    have C8 : ∀ w', Cls (w.alloc (.cells #[.int .i64 (s : Int), .slice B ids.length e] 29)) w' → w'.cell? ⟨gx, 8, none⟩ = some (.slice RA r.length rc) := fun _ h => h.cell (H0.out.cell 3 8 rfl rfl)
    have C10 : ∀ w', Cls (w.alloc (.cells #[.int .i64 (s : Int), .slice B ids.length e] 29)) w' → w'.cell? ⟨w.heap.size, 0, none⟩ = some (.int .i64 (s : Int)) := fun _ h => h.cell (H0.out.cell 0 0 rfl rfl)
    have C11 : ∀ w', Cls (w.alloc (.cells #[.int .i64 (s : Int), .slice B ids.length e] 29)) w' → w'.cell? ⟨w.heap.size, 1, none⟩ = some (.slice B ids.length e) := fun _ h => h.cell (H0.out.cell 0 1 rfl rfl)
    have HBO := HB0
    obtain ⟨x, hx⟩ : ∃ x, ordR fs (s : Int) ids (s : Int) r = x := ⟨_, rfl⟩
    have HX := hid hx
    rw [hx] at HC
    clear hx
    cases few
    · have HR : Hid (btR false fs (s : Int) (some r) ids = decide (x < 0)) := by unfold Hid; rw [btR_two]; rw [HX.out]; rfl
      go_enter Tryz.func87, Tryz.ntmps87
      go_wp2_with fail
      refine region_cls (by kernel_rfl) (by kernel_rfl) ?_
      repeat (first
        | ((with_reducible refine quiet_pos ?_ (fun K hK => ?_))
           · rfl
           apply Exists.intro
           refine ⟨fun w' hw' => ?_, ?_⟩
           · go_simp
             with_reducible rfl
           simp only [Act.put, List.setIfInBounds_toArray, List.set_cons_zero, List.set_cons_succ]
           refine hK _ ?_; clear hK K)
        | ((with_reducible refine quiet_neg ?_ (fun K hK => ?_))
           · rfl
           simp only [Act.put, List.setIfInBounds_toArray, List.set_cons_zero, List.set_cons_succ]
           refine hK _ ?_; clear hK K))
      with_reducible refine wpQuiet_nil ?_
      intro wz hwz'
      have hcl := HB0.out.trans (hwz'.mono HB0.out.size)
      have H1 := hid (H0.out.step hwz')
      have HC1 : Hid (∀ w', Cls wz w' → _) := fun w' h => HC.out w' (hwz'.trans (h.mono hwz'.size))
      clear C0 C1 C5 C7 C8 C10 C11 HC
      replace HC := HC1
      clear HC1 hwz'
      have C0 : ∀ w', Cls wz w' → w'.cell? ⟨gx, 0, none⟩ = some (.slice A n c) := fun _ h => h.cell (H1.out.cell 3 0 rfl rfl)
      have C1 : ∀ w', Cls wz w' → w'.cell? ⟨gx, 1, none⟩ = some (.slice A' m d) := fun _ h => h.cell (H1.out.cell 3 1 rfl rfl)
      have C5 : ∀ w', Cls wz w' → w'.cell? ⟨gx, 5, none⟩ = some (.bool _) := fun _ h => h.cell (H1.out.cell 3 5 rfl rfl)
      have C7 : ∀ w', Cls wz w' → w'.cell? ⟨gx, 7, none⟩ = some (.int .i64 (s : Int)) := fun _ h => h.cell (H1.out.cell 3 7 rfl rfl)
      have C8 : ∀ w', Cls wz w' → w'.cell? ⟨gx, 8, none⟩ = some (.slice RA r.length rc) := fun _ h => h.cell (H1.out.cell 3 8 rfl rfl)
      have C10 : ∀ w', Cls wz w' → w'.cell? ⟨w.heap.size, 0, none⟩ = some (.int .i64 (s : Int)) := fun _ h => h.cell (H1.out.cell 0 0 rfl rfl)
      have C11 : ∀ w', Cls wz w' → w'.cell? ⟨w.heap.size, 1, none⟩ = some (.slice B ids.length e) := fun _ h => h.cell (H1.out.cell 0 1 rfl rfl)
      go_wp2_with fail
      refine region_cls (by kernel_rfl) (by kernel_rfl) ?_
      repeat (first
        | ((with_reducible refine quiet_pos ?_ (fun K hK => ?_))
           · rfl
           apply Exists.intro
           refine ⟨fun w' hw' => ?_, ?_⟩
           · go_simp
             first
               | with_reducible rfl
               | go_at_call 106; with_reducible exact hw'.call (HC.out _ hw')
           simp only [Act.put, List.setIfInBounds_toArray, List.set_cons_zero, List.set_cons_succ]
           refine hK _ ?_; clear hK K)
        | ((with_reducible refine quiet_neg ?_ (fun K hK => ?_))
           · rfl
           simp only [Act.put, List.setIfInBounds_toArray, List.set_cons_zero, List.set_cons_succ]
           refine hK _ ?_; clear hK K))
      with_reducible refine wpQuiet_nil ?_
      intro wz hwz'
      have hcl2 := hcl.trans (hwz'.mono hcl.size)
      go_wp2_with fail
      go_ret
      exact ⟨by rw [HR.out]; rfl, hcl2⟩
    · by_cases hlen : ids.length = r.length
      · have HR : Hid (btR true fs (s : Int) (some r) ids = decide (x < 0)) := by
          unfold Hid; rw [btR_two]
          have h2 : (ids.length == r.length) = true := by rw [beq_iff_eq]; exact hlen
          rw [HX.out, h2]; rfl
        have hne : ((ids.length : Int) != (r.length : Int)) = false := by rw [hlen]; simp
        have HLE := hid hlen
        clear hlen
        go_enter Tryz.func87, Tryz.ntmps87
        go_wp2_with fail
        refine region_cls (by kernel_rfl) (by kernel_rfl) ?_
        repeat (first
          | ((with_reducible refine quiet_pos ?_ (fun K hK => ?_))
             · rfl
             apply Exists.intro
             refine ⟨fun w' hw' => ?_, ?_⟩
             · go_simp
               with_reducible rfl
             simp only [Act.put, List.setIfInBounds_toArray, List.set_cons_zero, List.set_cons_succ]
             refine hK _ ?_; clear hK K)
          | ((with_reducible refine quiet_neg ?_ (fun K hK => ?_))
             · rfl
             simp only [Act.put, List.setIfInBounds_toArray, List.set_cons_zero, List.set_cons_succ]
             refine hK _ ?_; clear hK K))
        with_reducible refine wpQuiet_nil ?_
        intro wz hwz'
        have hcl := HB0.out.trans (hwz'.mono HB0.out.size)
        have H1 := hid (H0.out.step hwz')
        have HC1 : Hid (∀ w', Cls wz w' → _) := fun w' h => HC.out w' (hwz'.trans (h.mono hwz'.size))
        clear C0 C1 C5 C7 C8 C10 C11 HC
        replace HC := HC1
        clear HC1 hwz'
        have C0 : ∀ w', Cls wz w' → w'.cell? ⟨gx, 0, none⟩ = some (.slice A n c) := fun _ h => h.cell (H1.out.cell 3 0 rfl rfl)
        have C1 : ∀ w', Cls wz w' → w'.cell? ⟨gx, 1, none⟩ = some (.slice A' m d) := fun _ h => h.cell (H1.out.cell 3 1 rfl rfl)
        have C5 : ∀ w', Cls wz w' → w'.cell? ⟨gx, 5, none⟩ = some (.bool _) := fun _ h => h.cell (H1.out.cell 3 5 rfl rfl)
        have C7 : ∀ w', Cls wz w' → w'.cell? ⟨gx, 7, none⟩ = some (.int .i64 (s : Int)) := fun _ h => h.cell (H1.out.cell 3 7 rfl rfl)
        have C8 : ∀ w', Cls wz w' → w'.cell? ⟨gx, 8, none⟩ = some (.slice RA r.length rc) := fun _ h => h.cell (H1.out.cell 3 8 rfl rfl)
        have C10 : ∀ w', Cls wz w' → w'.cell? ⟨w.heap.size, 0, none⟩ = some (.int .i64 (s : Int)) := fun _ h => h.cell (H1.out.cell 0 0 rfl rfl)
        have C11 : ∀ w', Cls wz w' → w'.cell? ⟨w.heap.size, 1, none⟩ = some (.slice B ids.length e) := fun _ h => h.cell (H1.out.cell 0 1 rfl rfl)
        go_wp2_with fail
        refine region_cls (by kernel_rfl) (by kernel_rfl) ?_
        repeat (first
          | ((with_reducible refine quiet_pos ?_ (fun K hK => ?_))
             · rfl
             apply Exists.intro
             refine ⟨fun w' hw' => ?_, ?_⟩
             · go_simp
               first
                 | with_reducible rfl
                 | go_at_call 106; with_reducible exact hw'.call (HC.out _ hw')
             simp only [Act.put, List.setIfInBounds_toArray, List.set_cons_zero, List.set_cons_succ]
             refine hK _ ?_; clear hK K)
          | ((with_reducible refine quiet_neg ?_ (fun K hK => ?_))
             · rfl
             simp only [Act.put, List.setIfInBounds_toArray, List.set_cons_zero, List.set_cons_succ]
             refine hK _ ?_; clear hK K))
        with_reducible refine wpQuiet_nil ?_
        intro wz hwz'
        have hcl2 := hcl.trans (hwz'.mono hcl.size)
        go_wp2_with fail
        go_ret
        exact ⟨by rw [HR.out]; rfl, hcl2⟩
      · have HR : Hid (btR true fs (s : Int) (some r) ids = decide (ids.length < r.length)) := by
          unfold Hid; rw [btR_two]
          have h2 : (ids.length == r.length) = false := by rw [beq_eq_false_iff_ne]; exact hlen
          rw [h2]
          simp
        have hne : ((ids.length : Int) != (r.length : Int)) = true := by rw [bne_iff_ne]; omega
        clear hlen
        go_enter Tryz.func87, Tryz.ntmps87
        go_wp2_with fail
        refine region_cls (by kernel_rfl) (by kernel_rfl) ?_
        repeat (first
          | ((with_reducible refine quiet_pos ?_ (fun K hK => ?_))
             · rfl
             apply Exists.intro
             refine ⟨fun w' hw' => ?_, ?_⟩
             · go_simp
               with_reducible rfl
             simp only [Act.put, List.setIfInBounds_toArray, List.set_cons_zero, List.set_cons_succ]
             refine hK _ ?_; clear hK K)
          | ((with_reducible refine quiet_neg ?_ (fun K hK => ?_))
             · rfl
             simp only [Act.put, List.setIfInBounds_toArray, List.set_cons_zero, List.set_cons_succ]
             refine hK _ ?_; clear hK K))
        with_reducible refine wpQuiet_nil ?_
        intro wz hwz'
        have hcl := HB0.out.trans (hwz'.mono HB0.out.size)
        have H1 := hid (H0.out.step hwz')
        have HC1 : Hid (∀ w', Cls wz w' → _) := fun w' h => HC.out w' (hwz'.trans (h.mono hwz'.size))
        clear C0 C1 C5 C7 C8 C10 C11 HC
        replace HC := HC1
        clear HC1 hwz'
        have C0 : ∀ w', Cls wz w' → w'.cell? ⟨gx, 0, none⟩ = some (.slice A n c) := fun _ h => h.cell (H1.out.cell 3 0 rfl rfl)
        have C1 : ∀ w', Cls wz w' → w'.cell? ⟨gx, 1, none⟩ = some (.slice A' m d) := fun _ h => h.cell (H1.out.cell 3 1 rfl rfl)
        have C5 : ∀ w', Cls wz w' → w'.cell? ⟨gx, 5, none⟩ = some (.bool _) := fun _ h => h.cell (H1.out.cell 3 5 rfl rfl)
        have C7 : ∀ w', Cls wz w' → w'.cell? ⟨gx, 7, none⟩ = some (.int .i64 (s : Int)) := fun _ h => h.cell (H1.out.cell 3 7 rfl rfl)
        have C8 : ∀ w', Cls wz w' → w'.cell? ⟨gx, 8, none⟩ = some (.slice RA r.length rc) := fun _ h => h.cell (H1.out.cell 3 8 rfl rfl)
        have C10 : ∀ w', Cls wz w' → w'.cell? ⟨w.heap.size, 0, none⟩ = some (.int .i64 (s : Int)) := fun _ h => h.cell (H1.out.cell 0 0 rfl rfl)
        have C11 : ∀ w', Cls wz w' → w'.cell? ⟨w.heap.size, 1, none⟩ = some (.slice B ids.length e) := fun _ h => h.cell (H1.out.cell 0 1 rfl rfl)
        go_wp2_with fail
        refine region_cls (by kernel_rfl) (by kernel_rfl) ?_
        repeat (first
          | ((with_reducible refine quiet_pos ?_ (fun K hK => ?_))
             · rfl
             apply Exists.intro
             refine ⟨fun w' hw' => ?_, ?_⟩
             · go_simp
               with_reducible rfl
             simp only [Act.put, List.setIfInBounds_toArray, List.set_cons_zero, List.set_cons_succ]
             refine hK _ ?_; clear hK K)
          | ((with_reducible refine quiet_neg ?_ (fun K hK => ?_))
             · rfl
             simp only [Act.put, List.setIfInBounds_toArray, List.set_cons_zero, List.set_cons_succ]
             refine hK _ ?_; clear hK K))
        with_reducible refine wpQuiet_nil ?_
        intro wz hwz'
        have hcl2 := hcl.trans (hwz'.mono hcl.size)
        go_wp2_with fail
        go_ret
        exact ⟨by rw [HR.out]; rfl, hcl2⟩
end
end Go.Proofs.YtgoegldffjfmdaaGreat
/-
  DERIVED: THE SHELF's CONTRACTS AT THIS DUMP, IN PLAIN WORDS (tools/lay-plain.mjs out of 'TryzShelf.lean', which tools/lay-shelf.mjs wrote): THE SAME DECLARATIONS UNDER THE SAME NAMES: 'import', 'namespace', 'open', 'def', 'theorem' AND NOTHING ELSE: no command of the shelf's: FOR A HAND-IN. Each laying: the table of numbers ('.._ren') and one theorem, a field a fact of the dump's own or the kernel's comparison; each contract: ONE APPLICATION.
-/
namespace Go.Proofs
open Go.Shelf
def Tryz.lays128_ren : Go.Shelf.Ren := ⟨fun | 128 => 117 | n => n, fun | 51 => 135 | 3 => 3 | 4 => 4 | 46 => 119 | 5 => 5 | 9 => 9 | n => n, fun | n => n⟩
theorem Tryz.lays128 : Go.Proofs.Lays.n128 Tryz.prog Tryz.lays128_ren := {
  mixed := by kernel_rfl
  f128 := Tryz.func117.trans (congrArg some (by kernel_rfl))
  t3 := Tryz.underlying3
  a3 := Tryz.isAgg3
  z3 := Tryz.sizeOf3
  v3 := Tryz.zeroValue3
  t4 := Tryz.underlying4
  a4 := Tryz.isAgg4
  z4 := Tryz.sizeOf4
  v4 := Tryz.zeroValue4
  t5 := Tryz.underlying5
  a5 := Tryz.isAgg5
  z5 := Tryz.sizeOf5
  v5 := Tryz.zeroValue5
  t9 := Tryz.underlying9
  a9 := Tryz.isAgg9
  z9 := Tryz.sizeOf9
  v9 := Tryz.zeroValue9
  t46 := Tryz.underlying119
  a46 := Tryz.isAgg119
  z46 := Tryz.sizeOf119
  v46 := Tryz.zeroValue119
  t51 := Tryz.underlying135
  a51 := Tryz.isAgg135
  z51 := Tryz.sizeOf135
  v51 := Tryz.zeroValue135 }
/-- bits.Len32: "Len32 returns the minimum number of bits required to represent x; the result is 0 for x == 0.": IT RETURNS 'Lib.bitLen x'; the world is as it was. ('h0', 'h1': x is a uint32.) (LAID: no walk: one application.) -/
theorem Tryz.bits_Len32 (x : Int) (w : World) (h0 : 0 ≤ x) (h1 : x ≤ 4294967295) :
    Calls Tryz.prog 117 #[.int .u32 x] w fun e w' => e = .returned (.int .i64 (Lib.bitLen x.toNat)) ∧ w' = w := Any.bits_Len32 Tryz.lays128 x w h0 h1
def Tryz.lays125_ren : Go.Shelf.Ren := ⟨fun | 125 => 97 | 128 => 117 | 129 => 118 | n => n, fun | 46 => 119 | 3 => 3 | 51 => 135 | 53 => 67 | 4 => 4 | 5 => 5 | 9 => 9 | n => n, fun | n => n⟩
theorem Tryz.lays125 : Go.Proofs.Lays.n125 Tryz.prog Tryz.lays125_ren := {
  mixed := by kernel_rfl
  f125 := Tryz.func97.trans (congrArg some (by kernel_rfl))
  f128 := Tryz.func117.trans (congrArg some (by kernel_rfl))
  f129 := Tryz.func118.trans (congrArg some (by kernel_rfl))
  t3 := Tryz.underlying3
  a3 := Tryz.isAgg3
  z3 := Tryz.sizeOf3
  v3 := Tryz.zeroValue3
  t4 := Tryz.underlying4
  a4 := Tryz.isAgg4
  z4 := Tryz.sizeOf4
  v4 := Tryz.zeroValue4
  t5 := Tryz.underlying5
  a5 := Tryz.isAgg5
  z5 := Tryz.sizeOf5
  v5 := Tryz.zeroValue5
  t9 := Tryz.underlying9
  a9 := Tryz.isAgg9
  z9 := Tryz.sizeOf9
  v9 := Tryz.zeroValue9
  t46 := Tryz.underlying119
  a46 := Tryz.isAgg119
  z46 := Tryz.sizeOf119
  v46 := Tryz.zeroValue119
  t51 := Tryz.underlying135
  a51 := Tryz.isAgg135
  z51 := Tryz.sizeOf135
  v51 := Tryz.zeroValue135
  t53 := Tryz.underlying67
  a53 := Tryz.isAgg67
  z53 := Tryz.sizeOf67
  v53 := Tryz.zeroValue67 }
/-- bits.Len: "Len returns the minimum number of bits required to represent x; the result is 0 for x == 0.": IT RETURNS 'Lib.bitLen x'; the world is as it was. (A uint has 64 bits in the model.) ITS CALLEE bits.Len64 IS MET BY ITS OWN CONTRACT OFF THE SHELF (lay that first). (LAID: no walk: one application.) -/
theorem Tryz.bits_Len (x : Int) (w : World) (h0 : 0 ≤ x) (h1 : x ≤ 18446744073709551615) :
    Calls Tryz.prog 97 #[.int .u64 x] w fun e w' => e = .returned (.int .i64 (Lib.bitLen x.toNat)) ∧ w' = w := Any.bits_Len Tryz.lays125 x w h0 h1
def Tryz.lays129_ren : Go.Shelf.Ren := ⟨fun | 129 => 118 | n => n, fun | 53 => 67 | 3 => 3 | 4 => 4 | 46 => 119 | 5 => 5 | 9 => 9 | n => n, fun | n => n⟩
theorem Tryz.lays129 : Go.Proofs.Lays.n129 Tryz.prog Tryz.lays129_ren := {
  mixed := by kernel_rfl
  f129 := Tryz.func118.trans (congrArg some (by kernel_rfl))
  t3 := Tryz.underlying3
  a3 := Tryz.isAgg3
  z3 := Tryz.sizeOf3
  v3 := Tryz.zeroValue3
  t4 := Tryz.underlying4
  a4 := Tryz.isAgg4
  z4 := Tryz.sizeOf4
  v4 := Tryz.zeroValue4
  t5 := Tryz.underlying5
  a5 := Tryz.isAgg5
  z5 := Tryz.sizeOf5
  v5 := Tryz.zeroValue5
  t9 := Tryz.underlying9
  a9 := Tryz.isAgg9
  z9 := Tryz.sizeOf9
  v9 := Tryz.zeroValue9
  t46 := Tryz.underlying119
  a46 := Tryz.isAgg119
  z46 := Tryz.sizeOf119
  v46 := Tryz.zeroValue119
  t53 := Tryz.underlying67
  a53 := Tryz.isAgg67
  z53 := Tryz.sizeOf67
  v53 := Tryz.zeroValue67 }
/-- bits.Len64: "Len64 returns the minimum number of bits required to represent x; the result is 0 for x == 0.": IT RETURNS 'Lib.bitLen x'; the world is as it was. ('h0', 'h1': x is a uint64.) (LAID: no walk: one application.) -/
theorem Tryz.bits_Len64 (x : Int) (w : World) (h0 : 0 ≤ x) (h1 : x ≤ 18446744073709551615) :
    Calls Tryz.prog 118 #[.int .u64 x] w fun e w' => e = .returned (.int .i64 (Lib.bitLen x.toNat)) ∧ w' = w := Any.bits_Len64 Tryz.lays129 x w h0 h1
def Tryz.lays189_ren : Go.Shelf.Ren := ⟨fun | 189 => 64 | 125 => 97 | 257 => 96 | 128 => 117 | 129 => 118 | 294 => 108 | 295 => 109 | 296 => 110 | 297 => 111 | 298 => 112 | 299 => 113 | 216 => 114 | 300 => 115 | 301 => 116 | 328 => 130 | 329 => 131 | 330 => 132 | 331 => 133 | 332 => 134 | 215 => 81 | 343 => 138 | n => n, fun | 28 => 26 | 3 => 3 | 46 => 119 | 0 => 0 | 51 => 135 | 53 => 67 | 4 => 4 | 183 => 129 | 182 => 128 | 131 => 49 | 5 => 5 | 9 => 9 | 218 => 146 | 222 => 150 | 228 => 154 | 229 => 155 | n => n, fun | n => n⟩
theorem Tryz.lays189 : Go.Proofs.Lays.n189 Tryz.prog Tryz.lays189_ren := {
  mixed := by kernel_rfl
  f125 := Tryz.func97.trans (congrArg some (by kernel_rfl))
  f128 := Tryz.func117.trans (congrArg some (by kernel_rfl))
  f129 := Tryz.func118.trans (congrArg some (by kernel_rfl))
  f189 := Tryz.func64.trans (congrArg some (by kernel_rfl))
  f215 := Tryz.func81.trans (congrArg some (by kernel_rfl))
  f216 := Tryz.func114.trans (congrArg some (by kernel_rfl))
  f257 := Tryz.func96.trans (congrArg some (by kernel_rfl))
  f294 := Tryz.func108.trans (congrArg some (by kernel_rfl))
  f295 := Tryz.func109.trans (congrArg some (by kernel_rfl))
  f296 := Tryz.func110.trans (congrArg some (by kernel_rfl))
  f297 := Tryz.func111.trans (congrArg some (by kernel_rfl))
  f298 := Tryz.func112.trans (congrArg some (by kernel_rfl))
  f299 := Tryz.func113.trans (congrArg some (by kernel_rfl))
  f300 := Tryz.func115.trans (congrArg some (by kernel_rfl))
  f301 := Tryz.func116.trans (congrArg some (by kernel_rfl))
  f328 := Tryz.func130.trans (congrArg some (by kernel_rfl))
  f329 := Tryz.func131.trans (congrArg some (by kernel_rfl))
  f330 := Tryz.func132.trans (congrArg some (by kernel_rfl))
  f331 := Tryz.func133.trans (congrArg some (by kernel_rfl))
  f332 := Tryz.func134.trans (congrArg some (by kernel_rfl))
  f343 := Tryz.func138.trans (congrArg some (by kernel_rfl))
  t0 := Tryz.underlying0
  a0 := Tryz.isAgg0
  z0 := Tryz.sizeOf0
  v0 := Tryz.zeroValue0
  t3 := Tryz.underlying3
  a3 := Tryz.isAgg3
  z3 := Tryz.sizeOf3
  v3 := Tryz.zeroValue3
  t4 := Tryz.underlying4
  a4 := Tryz.isAgg4
  z4 := Tryz.sizeOf4
  v4 := Tryz.zeroValue4
  t5 := Tryz.underlying5
  a5 := Tryz.isAgg5
  z5 := Tryz.sizeOf5
  v5 := Tryz.zeroValue5
  t9 := Tryz.underlying9
  a9 := Tryz.isAgg9
  z9 := Tryz.sizeOf9
  v9 := Tryz.zeroValue9
  t28 := Tryz.underlying26
  a28 := Tryz.isAgg26
  z28 := Tryz.sizeOf26
  v28 := Tryz.zeroValue26
  t46 := Tryz.underlying119
  a46 := Tryz.isAgg119
  z46 := Tryz.sizeOf119
  v46 := Tryz.zeroValue119
  t51 := Tryz.underlying135
  a51 := Tryz.isAgg135
  z51 := Tryz.sizeOf135
  v51 := Tryz.zeroValue135
  t53 := Tryz.underlying67
  a53 := Tryz.isAgg67
  z53 := Tryz.sizeOf67
  v53 := Tryz.zeroValue67
  t131 := Tryz.underlying49
  a131 := Tryz.isAgg49
  z131 := Tryz.sizeOf49
  v131 := Tryz.zeroValue49
  t182 := Tryz.underlying128
  a182 := Tryz.isAgg128
  z182 := Tryz.sizeOf128
  v182 := Tryz.zeroValue128
  t183 := Tryz.underlying129
  a183 := Tryz.isAgg129
  z183 := Tryz.sizeOf129
  v183 := Tryz.zeroValue129
  t218 := Tryz.underlying146
  a218 := Tryz.isAgg146
  z218 := Tryz.sizeOf146
  v218 := Tryz.zeroValue146
  t222 := Tryz.underlying150
  a222 := Tryz.isAgg150
  z222 := Tryz.sizeOf150
  v222 := Tryz.zeroValue150
  t228 := Tryz.underlying154
  a228 := Tryz.isAgg154
  z228 := Tryz.sizeOf154
  v228 := Tryz.zeroValue154
  t229 := Tryz.underlying155
  a229 := Tryz.isAgg155
  z229 := Tryz.sizeOf155
  v229 := Tryz.zeroValue155 }
open Go.Sort Go.RowKit in
theorem Tryz.slices_Sort_int (blk off cap : Nat) (zs : List Int) (w : World) (hH : Holds (Value.int .i64) w blk off zs.toArray) (hblk : blk < w.heap.size) (hsz : zs.length < 4611686018427387904) :
    Calls Tryz.prog 64 #[.slice (some ⟨blk, off, none⟩) zs.length cap] w fun e w' =>
      e = .returned (.tuple #[]) ∧ ∃ n os, w' = grow (putRow (Value.int .i64) (Sort.ahead w n) blk off (zs.mergeSort fun x y => decide (x ≤ y)).toArray) os := Any.slices_Sort_int Tryz.lays189 blk off cap zs w hH hblk hsz
def Tryz.lays264_ren : Go.Shelf.Ren := ⟨fun | 264 => 120 | n => n, fun | 53 => 67 | 46 => 119 | n => n, fun | n => n⟩
theorem Tryz.lays264 : Go.Proofs.Lays.n264 Tryz.prog Tryz.lays264_ren := {
  mixed := by kernel_rfl
  f264 := Tryz.func120.trans (congrArg some (by kernel_rfl))
  t46 := Tryz.underlying119
  a46 := Tryz.isAgg119
  z46 := Tryz.sizeOf119
  v46 := Tryz.zeroValue119
  t53 := Tryz.underlying67
  a53 := Tryz.isAgg67
  z53 := Tryz.sizeOf67
  v53 := Tryz.zeroValue67 }
open Go.RowKit Go.Lib in
theorem Tryz.bits_Mul64 (x y : Nat) (hx : x < 18446744073709551616) (hy : y < 18446744073709551616) (w : World) :
    Calls Tryz.prog 120 #[.int .u64 x, .int .u64 y] w fun e w' => e = .returned (.tuple #[.int .u64 ((x * y / 18446744073709551616 : Nat) : Int), .int .u64 ((x * y % 18446744073709551616 : Nat) : Int)]) ∧ w' = w := Any.bits_Mul64 Tryz.lays264 x y hx hy w
def Tryz.lays212_ren : Go.Shelf.Ren := ⟨fun | 212 => 101 | 263 => 119 | 264 => 120 | n => n, fun | 46 => 119 | 51 => 135 | 146 => 137 | 53 => 67 | 148 => 139 | n => n, fun | n => n⟩
theorem Tryz.lays212 : Go.Proofs.Lays.n212 Tryz.prog Tryz.lays212_ren := {
  mixed := by kernel_rfl
  f212 := Tryz.func101.trans (congrArg some (by kernel_rfl))
  f263 := Tryz.func119.trans (congrArg some (by kernel_rfl))
  f264 := Tryz.func120.trans (congrArg some (by kernel_rfl))
  t46 := Tryz.underlying119
  a46 := Tryz.isAgg119
  z46 := Tryz.sizeOf119
  v46 := Tryz.zeroValue119
  t51 := Tryz.underlying135
  a51 := Tryz.isAgg135
  z51 := Tryz.sizeOf135
  v51 := Tryz.zeroValue135
  t53 := Tryz.underlying67
  a53 := Tryz.isAgg67
  z53 := Tryz.sizeOf67
  v53 := Tryz.zeroValue67
  t146 := Tryz.underlying137
  a146 := Tryz.isAgg137
  z146 := Tryz.sizeOf137
  v146 := Tryz.zeroValue137
  t148 := Tryz.underlying139
  a148 := Tryz.isAgg139
  z148 := Tryz.sizeOf139
  v148 := Tryz.zeroValue139 }
open Go.RowKit Go.Lib in
/-- math/bits.Mul: "Mul returns the full-width product of x and y": on a machine of 64 bits: Mul64's. (LAID: no walk: one application.) -/
theorem Tryz.bits_Mul (x y : Nat) (hx : x < 18446744073709551616) (hy : y < 18446744073709551616) (w : World) :
    Calls Tryz.prog 101 #[.int .u64 x, .int .u64 y] w fun e w' => e = .returned (.tuple #[.int .u64 ((x * y / 18446744073709551616 : Nat) : Int), .int .u64 ((x * y % 18446744073709551616 : Nat) : Int)]) ∧ w' = w := Any.bits_Mul Tryz.lays212 x y hx hy w
def Tryz.lays108_ren : Go.Shelf.Ren := ⟨fun | 108 => 95 | n => n, fun | 28 => 26 | 3 => 3 | 0 => 0 | 4 => 4 | n => n, fun | n => n⟩
theorem Tryz.lays108 : Go.Proofs.Lays.n108 Tryz.prog Tryz.lays108_ren := {
  mixed := by kernel_rfl
  f108 := Tryz.func95.trans (congrArg some (by kernel_rfl))
  t0 := Tryz.underlying0
  a0 := Tryz.isAgg0
  z0 := Tryz.sizeOf0
  v0 := Tryz.zeroValue0
  t3 := Tryz.underlying3
  a3 := Tryz.isAgg3
  z3 := Tryz.sizeOf3
  v3 := Tryz.zeroValue3
  t4 := Tryz.underlying4
  a4 := Tryz.isAgg4
  z4 := Tryz.sizeOf4
  v4 := Tryz.zeroValue4
  t28 := Tryz.underlying26
  a28 := Tryz.isAgg26
  z28 := Tryz.sizeOf26
  v28 := Tryz.zeroValue26 }
open Go.Lib in
/-- slices.Index at []int: "Index returns the index of the first occurrence of v in s, or -1 if not present.": IT RETURNS 'Lib.idxOf (the elements) v'; the world is as it was. 'zs': what the cells behind the slice's address hold (its spare capacity too, if you have it); 'zs.take n': its elements. (LAID: no walk: one application.) -/
theorem Tryz.slices_Index_int (b off n c : Nat) (zs : List Int) (x : Int) (w : World) (hz : n ≤ zs.length) (hbig : n ≤ 9223372036854775807) (hc : ∀ j, j < zs.length → w.cell? ⟨b, off + j, none⟩ = some (.int .i64 (zs.getD j 0))) :
    Calls Tryz.prog 95 #[.slice (some ⟨b, off, none⟩) n c, .int .i64 x] w fun e w' => e = .returned (.int .i64 (Lib.idxOf (zs.take n) x)) ∧ w' = w := Any.slices_Index_int Tryz.lays108 b off n c zs x w hz hbig hc
open Go.Lib in
/-- The same at a slice of length 0, a nil one too: no cell is known, none is asked for. (LAID: no walk: one application.) -/
theorem Tryz.slices_Index_int_empty (a : Option Addr) (c : Nat) (x : Int) (w : World) :
    Calls Tryz.prog 95 #[.slice a 0 c, .int .i64 x] w fun e w' => e = .returned (.int .i64 (Lib.idxOf [] x)) ∧ w' = w := Any.slices_Index_int_empty Tryz.lays108 a c x w
def Tryz.lays107_ren : Go.Shelf.Ren := ⟨fun | 107 => 63 | 108 => 95 | n => n, fun | 28 => 26 | 3 => 3 | 4 => 4 | 0 => 0 | n => n, fun | n => n⟩
theorem Tryz.lays107 : Go.Proofs.Lays.n107 Tryz.prog Tryz.lays107_ren := {
  mixed := by kernel_rfl
  f107 := Tryz.func63.trans (congrArg some (by kernel_rfl))
  f108 := Tryz.func95.trans (congrArg some (by kernel_rfl))
  t0 := Tryz.underlying0
  a0 := Tryz.isAgg0
  z0 := Tryz.sizeOf0
  v0 := Tryz.zeroValue0
  t3 := Tryz.underlying3
  a3 := Tryz.isAgg3
  z3 := Tryz.sizeOf3
  v3 := Tryz.zeroValue3
  t4 := Tryz.underlying4
  a4 := Tryz.isAgg4
  z4 := Tryz.sizeOf4
  v4 := Tryz.zeroValue4
  t28 := Tryz.underlying26
  a28 := Tryz.isAgg26
  z28 := Tryz.sizeOf26
  v28 := Tryz.zeroValue26 }
open Go.Lib in
/-- slices.Contains at []int: "Contains reports whether v is present in s.": IT RETURNS 'elements.contains v'; the world is as it was. ITS CALLEE slices.Index IS MET BY ITS OWN CONTRACT OFF THE SHELF (lay that first): no loop is walked here. (LAID: no walk: one application.) -/
theorem Tryz.slices_Contains_int (b off n c : Nat) (zs : List Int) (x : Int) (w : World) (hz : n ≤ zs.length) (hbig : n ≤ 9223372036854775807) (hc : ∀ j, j < zs.length → w.cell? ⟨b, off + j, none⟩ = some (.int .i64 (zs.getD j 0))) :
    Calls Tryz.prog 63 #[.slice (some ⟨b, off, none⟩) n c, .int .i64 x] w fun e w' => e = .returned (.bool ((zs.take n).contains x)) ∧ w' = w := Any.slices_Contains_int Tryz.lays107 b off n c zs x w hz hbig hc
open Go.Lib in
/-- The same at a slice of length 0, a nil one too. (LAID: no walk: one application.) -/
theorem Tryz.slices_Contains_int_empty (a : Option Addr) (c : Nat) (x : Int) (w : World) :
    Calls Tryz.prog 63 #[.slice a 0 c, .int .i64 x] w fun e w' => e = .returned (.bool false) ∧ w' = w := Any.slices_Contains_int_empty Tryz.lays107 a c x w
def Tryz.lays109_ren : Go.Shelf.Ren := ⟨fun | 109 => 107 | n => n, fun | 31 => 22 | 9 => 9 | 3 => 3 | 0 => 0 | 4 => 4 | n => n, fun | n => n⟩
theorem Tryz.lays109 : Go.Proofs.Lays.n109 Tryz.prog Tryz.lays109_ren := {
  mixed := by kernel_rfl
  f109 := Tryz.func107.trans (congrArg some (by kernel_rfl))
  t0 := Tryz.underlying0
  a0 := Tryz.isAgg0
  z0 := Tryz.sizeOf0
  v0 := Tryz.zeroValue0
  t3 := Tryz.underlying3
  a3 := Tryz.isAgg3
  z3 := Tryz.sizeOf3
  v3 := Tryz.zeroValue3
  t4 := Tryz.underlying4
  a4 := Tryz.isAgg4
  z4 := Tryz.sizeOf4
  v4 := Tryz.zeroValue4
  t9 := Tryz.underlying9
  a9 := Tryz.isAgg9
  z9 := Tryz.sizeOf9
  v9 := Tryz.zeroValue9
  t31 := Tryz.underlying22
  a31 := Tryz.isAgg22
  z31 := Tryz.sizeOf22
  v31 := Tryz.zeroValue22 }
open Go.Lib in
/-- slices.Index at []string: "Index returns the index of the first occurrence of v in s, or -1 if not present.": IT RETURNS 'Lib.idxOfS (the elements) v'; the world is as it was. 'zs': what the cells behind the slice's address hold (its spare capacity too, if you have it); 'zs.take n': its elements. (LAID: no walk: one application.) -/
theorem Tryz.slices_Index_string (b off n c : Nat) (zs : List ByteArray) (x : ByteArray) (w : World) (hz : n ≤ zs.length) (hbig : n ≤ 9223372036854775807) (hc : ∀ j, j < zs.length → w.cell? ⟨b, off + j, none⟩ = some (.string (zs.getD j ByteArray.empty))) :
    Calls Tryz.prog 107 #[.slice (some ⟨b, off, none⟩) n c, .string x] w fun e w' => e = .returned (.int .i64 (Lib.idxOfS (zs.take n) x)) ∧ w' = w := Any.slices_Index_string Tryz.lays109 b off n c zs x w hz hbig hc
open Go.Lib in
/-- The same at a slice of length 0, a nil one too: no cell is known, none is asked for. (LAID: no walk: one application.) -/
theorem Tryz.slices_Index_string_empty (a : Option Addr) (c : Nat) (x : ByteArray) (w : World) :
    Calls Tryz.prog 107 #[.slice a 0 c, .string x] w fun e w' => e = .returned (.int .i64 (Lib.idxOfS [] x)) ∧ w' = w := Any.slices_Index_string_empty Tryz.lays109 a c x w
def Tryz.lays110_ren : Go.Shelf.Ren := ⟨fun | 110 => 92 | 109 => 107 | n => n, fun | 31 => 22 | 9 => 9 | 4 => 4 | 3 => 3 | 0 => 0 | n => n, fun | n => n⟩
theorem Tryz.lays110 : Go.Proofs.Lays.n110 Tryz.prog Tryz.lays110_ren := {
  mixed := by kernel_rfl
  f109 := Tryz.func107.trans (congrArg some (by kernel_rfl))
  f110 := Tryz.func92.trans (congrArg some (by kernel_rfl))
  t0 := Tryz.underlying0
  a0 := Tryz.isAgg0
  z0 := Tryz.sizeOf0
  v0 := Tryz.zeroValue0
  t3 := Tryz.underlying3
  a3 := Tryz.isAgg3
  z3 := Tryz.sizeOf3
  v3 := Tryz.zeroValue3
  t4 := Tryz.underlying4
  a4 := Tryz.isAgg4
  z4 := Tryz.sizeOf4
  v4 := Tryz.zeroValue4
  t9 := Tryz.underlying9
  a9 := Tryz.isAgg9
  z9 := Tryz.sizeOf9
  v9 := Tryz.zeroValue9
  t31 := Tryz.underlying22
  a31 := Tryz.isAgg22
  z31 := Tryz.sizeOf22
  v31 := Tryz.zeroValue22 }
open Go.Lib in
/-- slices.Contains at []string: "Contains reports whether v is present in s.": IT RETURNS 'Lib.containsS (the elements) v', which is true just where v is among them ('Lib.containsS_iff'); the world is as it was. ITS CALLEE slices.Index IS MET BY ITS OWN CONTRACT OFF THE SHELF (lay that first): no loop is walked here. (LAID: no walk: one application.) -/
theorem Tryz.slices_Contains_string (b off n c : Nat) (zs : List ByteArray) (x : ByteArray) (w : World) (hz : n ≤ zs.length) (hbig : n ≤ 9223372036854775807) (hc : ∀ j, j < zs.length → w.cell? ⟨b, off + j, none⟩ = some (.string (zs.getD j ByteArray.empty))) :
    Calls Tryz.prog 92 #[.slice (some ⟨b, off, none⟩) n c, .string x] w fun e w' => e = .returned (.bool (Lib.containsS (zs.take n) x)) ∧ w' = w := Any.slices_Contains_string Tryz.lays110 b off n c zs x w hz hbig hc
open Go.Lib in
/-- The same at a slice of length 0, a nil one too. (LAID: no walk: one application.) -/
theorem Tryz.slices_Contains_string_empty (a : Option Addr) (c : Nat) (x : ByteArray) (w : World) :
    Calls Tryz.prog 92 #[.slice a 0 c, .string x] w fun e w' => e = .returned (.bool false) ∧ w' = w := Any.slices_Contains_string_empty Tryz.lays110 a c x w
def Tryz.laysNm215_ren : Go.Shelf.Ren := ⟨fun | 15 => 76 | n => n, fun | 22 => 26 | 3 => 3 | 4 => 4 | n => n, fun | n => n⟩
theorem Tryz.laysNm215 : Go.Proofs.Lays2.n15 Tryz.prog Tryz.laysNm215_ren := {
  mixed := by kernel_rfl
  f15 := Tryz.func76.trans (congrArg some (by kernel_rfl))
  t3 := Tryz.underlying3
  a3 := Tryz.isAgg3
  z3 := Tryz.sizeOf3
  v3 := Tryz.zeroValue3
  t4 := Tryz.underlying4
  a4 := Tryz.isAgg4
  z4 := Tryz.sizeOf4
  v4 := Tryz.zeroValue4
  t22 := Tryz.underlying26
  a22 := Tryz.isAgg26
  z22 := Tryz.sizeOf26
  v22 := Tryz.zeroValue26
  i3 := by kernel_rfl }
open Go.RowKit Go.Lib in
/-- slices.Clone at []int: "Clone returns a copy of the slice. The elements are copied using assignment, so this is a shallow clone. The result may have additional unused capacity. The result preserves the nilness of s.": OF A SLICE THAT IS NOT nil IT RETURNS A SLICE THAT IS NOT nil, OF THE SAME ELEMENTS, IN MEMORY OF THE CALL's OWN: in the how-to's words (6f): 'w'.ownsRow B e 1 v' n cells': v' begins at the head of a row among the blocks from B on (B: the heap's size at the call), not frozen, whose first cells are the elements · 'Below B w w'': below B all is as it was. The capacity is whatever the run-time gives. 'zs': what the cells behind the slice's address hold; 'zs.take n': its elements. (LAID: no walk: one application.) -/
theorem Tryz.slices_Clone_int (b off n c : Nat) (zs : List Int) (w : World) (hz : n ≤ zs.length) (hbig : n * 8 ≤ 140737488355328) (hc : ∀ j, j < zs.length → w.cell? ⟨b, off + j, none⟩ = some (.int .i64 (zs.getD j 0))) :
    Calls Tryz.prog 76 #[.slice (some ⟨b, off, none⟩) n c] w fun e w' => ∃ v', e = .returned v' ∧ w'.ownsRow w.heap.size 3 1 v' n ((zs.take n).map (Value.int .i64)) ∧ v' ≠ .slice none 0 0 ∧ Below w.heap.size w w' := Any.slices_Clone_int Tryz.laysNm215 b off n c zs w hz hbig hc
open Go.RowKit Go.Lib in
/-- The same at nil: nil comes back; the world is as it was. (LAID: no walk: one application.) -/
theorem Tryz.slices_Clone_int_nil (n c : Nat) (w : World) :
    Calls Tryz.prog 76 #[.slice none n c] w fun e w' => e = .returned (.slice none 0 0) ∧ w' = w := Any.slices_Clone_int_nil Tryz.laysNm215 n c w
open Go.RowKit Go.Lib in
/-- The same at a slice of length 0 that is not nil, WHATEVER ITS ADDRESS (no cell is asked for): a slice that is not nil and owns nothing comes back. (LAID: no walk: one application.) -/
theorem Tryz.slices_Clone_int_zero (a : Addr) (c : Nat) (w : World) :
    Calls Tryz.prog 76 #[.slice (some a) 0 c] w fun e w' => ∃ v', e = .returned v' ∧ w'.ownsRow w.heap.size 3 1 v' 0 [] ∧ v' ≠ .slice none 0 0 ∧ Below w.heap.size w w' := Any.slices_Clone_int_zero Tryz.laysNm215 a c w
def Tryz.laysNm220_ren : Go.Shelf.Ren := ⟨fun | 20 => 65 | n => n, fun | 22 => 26 | 3 => 3 | 4 => 4 | 0 => 0 | n => n, fun | n => n⟩
theorem Tryz.laysNm220 : Go.Proofs.Lays2.n20 Tryz.prog Tryz.laysNm220_ren := {
  mixed := by kernel_rfl
  f20 := Tryz.func65.trans (congrArg some (by kernel_rfl))
  t0 := Tryz.underlying0
  a0 := Tryz.isAgg0
  z0 := Tryz.sizeOf0
  v0 := Tryz.zeroValue0
  t3 := Tryz.underlying3
  a3 := Tryz.isAgg3
  z3 := Tryz.sizeOf3
  v3 := Tryz.zeroValue3
  t4 := Tryz.underlying4
  a4 := Tryz.isAgg4
  z4 := Tryz.sizeOf4
  v4 := Tryz.zeroValue4
  t22 := Tryz.underlying26
  a22 := Tryz.isAgg26
  z22 := Tryz.sizeOf26
  v22 := Tryz.zeroValue26
  i3 := by kernel_rfl }
open Go.RowKit Go.Lib Go.Sort in
/-- slices.Compact at []int, over an array: the library's two loops are walked. (LAID: no walk: one application.) -/
theorem Tryz.slices_Compact_int_arr (blk off cap : Nat) (d : Array Int) (w : World) (hH : Holds encI w blk off d) (hsz : d.size ≤ 9223372036854775807) (hcap : d.size ≤ cap) :
    Calls Tryz.prog 65 #[.slice (some ⟨blk, off, none⟩) d.size cap] w fun e w' => e = .returned (.slice (some ⟨blk, off, none⟩) (compactUpTo d d.size).length cap) ∧ ∃ q, w' = putRow encI (Sort.ahead w q) blk off (compactUpTo d d.size ++ List.replicate (d.size - (compactUpTo d d.size).length) 0).toArray := Any.slices_Compact_int_arr Tryz.laysNm220 blk off cap d w hH hsz hcap
open Go.RowKit Go.Lib Go.Sort in
/-- slices.Compact at []int: "Compact replaces consecutive runs of equal elements with a single copy. This is like the uniq command found on Unix. Compact modifies the contents of the slice s and returns the modified slice, which may have a smaller length. Compact zeroes the elements between the new length and the original length. The result preserves the nilness of s.": IT RETURNS THE SLICE CUT TO 'Lib.compact zs'; ITS CELLS HOLD 'Lib.compact zs', THEN ZERO VALUES up to the old length; all else is as it was, but for the count of draws. IN THE WORDS OF slices.Sort's CONTRACT ('Holds', 'putRow'): so the everyday 'slices.Sort(xs); xs = slices.Compact(xs)' goes from the one contract to the other. It asks 'zs.length ≤ cap' (every slice's: the reslicing 's[:k]' looks at it). Length 0, nil: '.._empty'. (LAID: no walk: one application.) -/
theorem Tryz.slices_Compact_int (blk off cap : Nat) (zs : List Int) (w : World) (hH : Holds (Value.int .i64) w blk off zs.toArray) (hsz : zs.length ≤ 9223372036854775807) (hcap : zs.length ≤ cap) :
    Calls Tryz.prog 65 #[.slice (some ⟨blk, off, none⟩) zs.length cap] w fun e w' => e = .returned (.slice (some ⟨blk, off, none⟩) (Lib.compact zs).length cap) ∧ ∃ q, w' = putRow (Value.int .i64) (Sort.ahead w q) blk off (Lib.compact zs ++ List.replicate (zs.length - (Lib.compact zs).length) 0).toArray := Any.slices_Compact_int Tryz.laysNm220 blk off cap zs w hH hsz hcap
open Go.RowKit Go.Lib Go.Sort in
/-- The same at a slice of length 0, a nil one too: it comes back as it is. (LAID: no walk: one application.) -/
theorem Tryz.slices_Compact_int_empty (a : Option Addr) (cap : Nat) (w : World) :
    Calls Tryz.prog 65 #[.slice a 0 cap] w fun e w' => e = .returned (.slice a 0 cap) ∧ w' = w := Any.slices_Compact_int_empty Tryz.laysNm220 a cap w
def Tryz.laysNm237_ren : Go.Shelf.Ren := ⟨fun | 37 => 81 | n => n, fun | 3 => 3 | 4 => 4 | n => n, fun | n => n⟩
theorem Tryz.laysNm237 : Go.Proofs.Lays2.n37 Tryz.prog Tryz.laysNm237_ren := {
  mixed := by kernel_rfl
  f37 := Tryz.func81.trans (congrArg some (by kernel_rfl))
  t3 := Tryz.underlying3
  a3 := Tryz.isAgg3
  z3 := Tryz.sizeOf3
  v3 := Tryz.zeroValue3
  t4 := Tryz.underlying4
  a4 := Tryz.isAgg4
  z4 := Tryz.sizeOf4
  v4 := Tryz.zeroValue4 }
open Go.RowKit Go.Lib in
/-- cmp.isNaN[int]: 'x != x': false. (LAID: no walk: one application.) -/
theorem Tryz.cmp_isNaN_int2 (x : Int) (w : World) :
    Calls Tryz.prog 81 #[.int .i64 x] w fun e w' => e = .returned (.bool false) ∧ w' = w := Any.cmp_isNaN_int2 Tryz.laysNm237 x w
def Tryz.laysNm231_ren : Go.Shelf.Ren := ⟨fun | 31 => 114 | 37 => 81 | n => n, fun | 3 => 3 | 4 => 4 | n => n, fun | n => n⟩
theorem Tryz.laysNm231 : Go.Proofs.Lays2.n31 Tryz.prog Tryz.laysNm231_ren := {
  mixed := by kernel_rfl
  f31 := Tryz.func114.trans (congrArg some (by kernel_rfl))
  f37 := Tryz.func81.trans (congrArg some (by kernel_rfl))
  t3 := Tryz.underlying3
  a3 := Tryz.isAgg3
  z3 := Tryz.sizeOf3
  v3 := Tryz.zeroValue3
  t4 := Tryz.underlying4
  a4 := Tryz.isAgg4
  z4 := Tryz.sizeOf4
  v4 := Tryz.zeroValue4 }
open Go.RowKit Go.Lib in
/-- cmp.Less[int]: "Less reports whether x is less than y.": 'x < y'; the world is as it was. (LAID: no walk: one application.) -/
theorem Tryz.cmp_Less_int2 (x y : Int) (w : World) :
    Calls Tryz.prog 114 #[.int .i64 x, .int .i64 y] w fun e w' => e = .returned (.bool (decide (x < y))) ∧ w' = w := Any.cmp_Less_int2 Tryz.laysNm231 x y w
open Go.RowKit Go.Lib Go.Sort in
/-- slices.Compact at []int, of an argument: the slice cut to 'Lib.compact (elements)'; the n cells hold that, then zeros. (LAID: no walk: one application.) -/
theorem Tryz.slices_Compact_int_cells (b off n c : Nat) (zs : List Int) (w : World) (hz : n ≤ zs.length) (hbig : n ≤ 9223372036854775807) (hcap : n ≤ c) (hc : ∀ j, j < zs.length → w.cell? ⟨b, off + j, none⟩ = some (.int .i64 (zs.getD j 0))) (hf : ∀ j, j < n → w.frozen? ⟨b, off + j, none⟩ = false) :
    Calls Tryz.prog 65 #[.slice (some ⟨b, off, none⟩) n c] w fun e w' => e = .returned (.slice (some ⟨b, off, none⟩) (Lib.compact (zs.take n)).length c) ∧ ∃ q, w' = (w.drewN q).setCells b off ((Lib.compact (zs.take n) ++ List.replicate (n - (Lib.compact (zs.take n)).length) 0).map (Value.int .i64)) := Any.slices_Compact_int_cells Tryz.laysNm220 b off n c zs w hz hbig hcap hc hf
open Go.RowKit Go.Sort in
/-- .. and plain. (LAID: no walk: one application.) -/
theorem Tryz.slices_Sort_int_none (p : Option Addr) (cap : Nat) (w : World) :
    Calls Tryz.prog 64 #[.slice p 0 cap] w fun e w' => e = .returned (.tuple #[]) ∧ w' = w := Any.slices_Sort_int_none Tryz.lays189 p cap w
def Tryz.laysSlE041_f76_ren : Go.Shelf.Ren := ⟨fun | 41 => 76 | n => n, fun | 22 => 26 | 23 => 3 | 4 => 4 | n => n, fun | n => n⟩
theorem Tryz.laysSlE041_f76 : Go.Proofs.SlLaysE0.n41 Tryz.prog Tryz.laysSlE041_f76_ren := {
  mixed := by kernel_rfl
  f41 := ⟨Tryz.f76.name, by decide, Tryz.func76.trans (congrArg some (by kernel_rfl))⟩
  t4 := Tryz.underlying4
  a4 := Tryz.isAgg4
  z4 := Tryz.sizeOf4
  v4 := Tryz.zeroValue4
  t22 := Tryz.underlying26
  a22 := Tryz.isAgg26
  z22 := Tryz.sizeOf26
  v22 := Tryz.zeroValue26 }
open Go.RowKit Go.Lib in
/-- slices.Clone: "Clone returns a copy of the slice. The elements are copied using assignment, so this is a shallow clone. The result may have additional unused capacity. The result preserves the nilness of s.": OF A SLICE THAT IS NOT nil IT RETURNS A SLICE THAT IS NOT nil, OF THE SAME CELLS, IN MEMORY OF THE CALL's OWN ('ownsRow': the how-to's 6f); below the heap's size at the call all is as it was. (LAID AT THE INSTANCE 'slices.Clone[[]int,int]': no walk: one application.) -/
theorem Tryz.slices_Clone (i0 : TypeInfo) (z : Value) (size bytes : Nat) (hi : Tryz.prog.info? 3 = some i0) (hz0 : i0.zero = some z) (hz1 : i0.size = size) (hz2 : i0.bytes = bytes) (hzs : z.cells.size = size) (hsz : 0 < size) (z23 : ∀ w, (Go.sizeOf 3).run Tryz.prog w = .ok size w) (b off n c : Nat) (news : List Value) (w : World) (hl : news.length = n * size) (hn : n ≤ maxLen) (hbig : n * bytes ≤ 140737488355328) (hc : ∀ j u, news[j]? = some u → w.cell? ⟨b, off + j, none⟩ = some u) (h1 : ∀ u ∈ news, u.oneCell' = true) :
    Calls Tryz.prog 76 #[.slice (some ⟨b, off, none⟩) n c] w fun e w' => ∃ v', e = .returned v' ∧ w'.ownsRow w.heap.size 3 size v' n news ∧ v' ≠ .slice none 0 0 ∧ Below w.heap.size w w' := AnyE.slices_Clone Tryz.laysSlE041_f76 i0 z size bytes hi hz0 hz1 hz2 hzs hsz z23 b off n c news w hl hn hbig hc h1
open Go.RowKit Go.Lib in
/-- The same at nil: nil comes back; the world is as it was; nothing is asked of the element's type. (LAID AT THE INSTANCE 'slices.Clone[[]int,int]': no walk: one application.) -/
theorem Tryz.slices_Clone_nil (n c : Nat) (w : World) :
    Calls Tryz.prog 76 #[.slice none n c] w fun e w' => e = .returned (.slice none 0 0) ∧ w' = w := AnyE.slices_Clone_nil Tryz.laysSlE041_f76 n c w
end Go.Proofs
/- Distances: slices.Repeat, lengthsFrom, l5Distances, walked. Conditions: as each states. -/
namespace Go.Proofs.YtgoegldffjfmdaaGreat
open Go.RowKit
/-- All of the first k cells hold x. -/
def allIs (L : List Value) (x : Int) (k : Nat) : Prop := ∀ i, i < k → L[i]? = some (.int .i64 x)
theorem splice_is {L : List Value} {x : Int} {k m : Nat} (h : allIs L x k) (hk : k + m ≤ L.length) : allIs (splice L k (List.replicate m (.int .i64 x))) x (k + m) := by
  intro i hi
  unfold splice
  rcases Nat.lt_or_ge i k with h1 | h1
  · rw [List.getElem?_append_left (by simp; omega), List.getElem?_take, if_pos h1]; exact h i h1
  · rw [List.getElem?_append_right (by simp; omega), List.getElem?_append_left (by simp; omega), List.getElem?_replicate]
    simp; omega
theorem int_one : (Tryz.prog.info? 3).map (·.size) = some 1 := by kernel_rfl
theorem step_plain {P : Program} {ops : Array Oper} {o : Oper} {a : Act} {w : World} {K : Act → World → Prop} {Q : Exit → Act → World → Prop} {E : Prop} (hgd : o.guard = none) (h : Oper.wp P o a w K Q) : if Region.wanted o (yielded ops a.tmps) = true then Oper.wp P o a w K Q else E := by
  rw [if_pos (by simp [Region.wanted, hgd])]; exact h
theorem wp_copy_splice {P : Program} {o : Oper} {a : Act} {w : World} {K : Act → World → Prop} {Q : Exit → Act → World → Prop} (hgd : o.guard = none) (d s : Operand) (dT sT : TypeId)
    (ho : o.op = .call { callee := .builtin .copy, args := #[d, s], argTypes := #[dT, sT] }) (elem : TypeId) (hu : P.underlying dT = some (.slice elem)) (hsz : (P.info? elem).map (·.size) = some 1)
    (dp sp : Option Addr) (dLen dCap sLen sCap : Nat) (hd : a.eval d = .slice dp dLen dCap) (hs : a.eval s = .slice sp sLen sCap)
    (g off : Nat) (cur : List Value) (t : TypeId) (hg : w.heap[g]? = some (.cells cur.toArray t (0, 0))) (cs : List Value) (hn : cs.length = Nat.min sLen dLen)
    (hpos : 0 < cs.length → dp = some ⟨g, off, none⟩ ∧ ∃ ad, sp = some ad ∧ ∀ j v, cs[j]? = some v → w.cell? (ad.add j) = some v)
    (hfit : off + cs.length ≤ cur.length) (h1 : ∀ v ∈ cs, v.oneCell' = true) (B : Nat) (w0 : World) (hb : Below B w0 w) (hBg : B ≤ g)
    (h : ∀ w', Hid (w'.heap[g]? = some (.cells (splice cur off cs).toArray t (0, 0))) → Below B w0 w' → K (a.put o.dst (goInt cs.length)) w') : Oper.wp P o a w K Q := by
  have h2 := step_copy_splice (ops := #[]) (Q := Q) (E := False) hgd d s dT sT ho elem hu hsz dp sp dLen dCap sLen sCap hd hs g off cur t hg cs hn hpos hfit h1 B w0 hb hBg h
  rw [if_pos (by simp [Region.wanted, hgd])] at h2; exact h2
set_option maxHeartbeats 2000000 in
set_option maxRecDepth 100000 in
theorem repeat_any {B c n : Nat} {A : Option Addr} {x : Int} (w : World) (hA : Sees elInt w B A 1 [x]) (hn0 : 0 < n) (hn : n ≤ 1048576) :
    Calls Tryz.prog 73 #[.slice A 1 c, .int .i64 n] w fun e w' => ∃ v, e = .returned v ∧ Owns elInt w' w.heap.size 3 v (List.replicate n x) ∧ Below w.heap.size w w' := by
  obtain ⟨i0, hi, hz0, hz1, hz2⟩ := info_parts int_info
  have hmk := fun W => make_n (P := Tryz.prog) Tryz.underlying26 hi hz0 (n := n) (by rw [hz2]; omega) (by omega) W
  rw [hz1] at hmk
  clear hi hz0 hz1 hz2
  obtain ⟨b, o, rfl, hbB, hc⟩ := hA.at_ (k := 0) (by decide)
  have c0 := hc 0 x rfl 0 _ rfl
  simp only [elInt, Nat.zero_mul, Nat.add_zero] at c0
  have HM : Hid (∀ W, Calls Tryz.prog 101 #[.int .u64 1, .int .u64 n] W fun e w' => e = .returned (.tuple #[.int .u64 0, .int .u64 n]) ∧ w' = W) := fun W => by
    have h1 := Tryz.bits_Mul 1 n (by decide) (by omega) W
    rw [show 1 * n / 18446744073709551616 = 0 by omega, show 1 * n % 18446744073709551616 = n by omega] at h1
    exact h1
  have iu : IntKind.u64.wrap (n : Int) = (n : Int) := by rw [IntKind.wrap_u64]; omega
  have ii : IntKind.i64.wrap (n : Int) = (n : Int) := IntWalk.i64_in _ (by omega)
  have HB := hid hbB
  clear hA hc
  go_enter Tryz.func73, Tryz.ntmps73
  go_wp2_with fail
  refine (HM.out _).mono ?_
  rintro e w1 ⟨rfl, rfl⟩
  have i9 : ¬ ((9223372036854775807 : Int) < (n : Int)) := by omega
  obtain ⟨L0, hL0⟩ : ∃ L0 : List Value, L0 = (madeCells #[Value.int .i64 0] n).toList := ⟨_, rfl⟩
  have hsz0 : L0.length = n := by rw [hL0]; simpa using size_madeCells #[Value.int .i64 0] n
  have hb0 := bl_alloc (Below.refl w1.heap.size w1) (.cells (madeCells #[.int .i64 0] n) 3)
  have hg0 : (w1.alloc (.cells (madeCells #[.int .i64 0] n) 3)).heap[w1.heap.size]? = some (.cells L0.toArray 3 (0, 0)) := by
    have := Blk.new w1 3 (madeCells #[.int .i64 0] n)
    unfold Blk at this
    rw [hL0]; simpa using this
  have c1 := bl_cell hb0 c0
  have HG0 := hid hg0
  have hmin : Hid ([Value.int .i64 x].length = Nat.min 1 n) := by show 1 = min 1 n; omega
  have HL0 := hid hsz0
  have HB0 := hid hb0
  clear hb0 hg0 hsz0 hL0 c0
  go_wp2_with (first
    | (refine wpList_copy_splice rfl _ _ 26 26 rfl 3 Tryz.underlying26 int_one _ _ _ _ _ _ rfl rfl w1.heap.size 0 L0 3 HG0.out [.int .i64 x] hmin.out (fun _ => ⟨rfl, _, rfl, fun j v hj => by have : j = 0 := by { have := (List.getElem?_eq_some_iff.1 hj).1; simp at this; omega }; subst this; simp at hj; subst hj; simpa [Addr.add] using c1⟩) (by simp; rw [HL0.out]; omega) (by intro v hv; simp at hv; subst hv; rfl) w1.heap.size w1 HB0.out (Nat.le_refl _) ?_)
    | go_in)
  intro w2 hg2 hb2
  have hi1 : Hid (allIs (splice L0 0 [Value.int .i64 x]) x 1) := by
    have := splice_is (L := L0) (x := x) (k := 0) (m := 1) (fun i hi => by omega) (by rw [HL0.out]; omega)
    exact this
  have hl1 : Hid ((splice L0 0 [Value.int .i64 x]).length = n) := by unfold Hid; rw [length_splice _ _ _ (by rw [HL0.out]; simp; omega)]; exact HL0.out
  generalize splice L0 0 [Value.int .i64 x] = L1 at *
  clear HG0 HB0 HL0 c1 hmk iu ii HM
  go_wp2_with fail
  go_loopw [8] (fun i wr => ∃ (k : Nat) (L : List Value), (1 ≤ k ∧ k ≤ n) ∧ i = .int .i64 k ∧ Hid (wr.heap[w1.heap.size]? = some (.cells L.toArray 3 (0, 0))) ∧ Hid (L.length = n) ∧ Hid (allIs L x k) ∧ Below w1.heap.size w1 wr) (fun i _ => n - (intOf i).toNat)
  case atStart => exact ⟨1, L1, ⟨by decide, by omega⟩, rfl, hg2, hl1, hi1, hb2⟩
  case round =>
    clear hg2 hl1 hi1 hb2
    obtain ⟨k, L, ⟨hk0, hk⟩, rfl, hg, hl, his, hb⟩ := hrel
    by_cases hlt : k < n
    · obtain ⟨m, hm⟩ : ∃ m, m = min k (n - k) := ⟨_, rfl⟩
      have hm0 : 0 < m := by omega
      have hmk : m ≤ k := by omega
      have hmn : k + m ≤ n := by omega
      have hmin : Hid ((List.replicate m (Value.int .i64 x)).length = Nat.min k (n - k)) := by unfold Hid; rw [List.length_replicate]; exact hm
      have hb' := hb.drew
      have hgd : Hid (wr.drew.heap[w1.heap.size]? = some (.cells L.toArray 3 (0, 0))) := hg.out
      have hi2 : Hid (allIs (splice L k (List.replicate m (Value.int .i64 x))) x (k + m)) := splice_is his.out (by rw [hl.out]; exact hmn)
      have hl2 : Hid ((splice L k (List.replicate m (Value.int .i64 x))).length = n) := by unfold Hid; rw [length_splice _ _ _ (by rw [hl.out]; simp; exact hmn)]; exact hl.out
      have hsrc : Hid (∀ (W : World), W.heap[w1.heap.size]? = some (.cells L.toArray 3 (0, 0)) → ∀ (j : Nat) (v : Value), (List.replicate m (Value.int .i64 x))[j]? = some v → W.cell? ((⟨w1.heap.size, 0, none⟩ : Addr).add j) = some v) := fun W hW j v hj => by
        have hjm : j < m := by have := (List.getElem?_eq_some_iff.1 hj).1; simpa using this
        rw [List.getElem?_replicate] at hj
        rw [if_pos hjm] at hj
        injection hj with hj; subst hj
        have e : ((⟨w1.heap.size, 0, none⟩ : Addr).add j) = ⟨w1.heap.size, j, none⟩ := by unfold Addr.add; split; rename_i h0; rw [h0]; simp
        rw [e, Blk.cell (cur := L.toArray) (e := 3) hW]
        simpa using his.out j (by omega)
      have hlf : Hid (k + (List.replicate m (Value.int .i64 x)).length ≤ L.length) := by unfold Hid; rw [hl.out]; simp; exact hmn
      have hone : Hid (∀ v ∈ List.replicate m (Value.int .i64 x), v.oneCell' = true) := fun v hv => by rw [(List.mem_replicate.1 hv).2]; rfl
      have hlen : Hid ((List.replicate m (Value.int .i64 x)).length = m) := by unfold Hid; simp
      have ik : (k : Int) < (n : Int) := by omega
      have hdec : Hid ((if n = k then (some ⟨w1.heap.size, 0, none⟩ : Option Addr) else some ⟨w1.heap.size, k, none⟩) = some ⟨w1.heap.size, k, none⟩) := if_neg (by omega)
      have im : IntKind.i64.wrap ((k : Int) + (m : Int)) = ((k + m : Nat) : Int) := by rw [IntWalk.i64_in _ (by omega)]; omega
      clear hm his
      generalize List.replicate m (Value.int .i64 x) = C at *
      go_wp2_with fail
      go_region_law (refine step_plain rfl ?_; simp only [Act.put, List.getElem_toArray, List.getElem_cons_zero, List.getElem_cons_succ, List.setIfInBounds_toArray, List.set_cons_zero, List.set_cons_succ, hdec.out]; refine wp_copy_splice rfl (.tmp 41) (.tmp 44) 26 26 rfl 3 Tryz.underlying26 int_one _ _ _ _ _ _ rfl rfl w1.heap.size k L 3 hgd.out C hmin.out (fun _ => ⟨rfl, _, rfl, hsrc.out _ hgd.out⟩) hlf.out hone.out w1.heap.size w1 hb' (Nat.le_refl _) ?_; intro w4 hg4 hb4; rw [hlen.out]; simp only [Act.put, List.setIfInBounds_toArray, List.set_cons_zero, List.set_cons_succ])
      all_goals
        go_wp2
        refine ⟨?_, by simp [Act.put, intOf]; omega⟩
        first
          | exact ⟨k + m, _, ⟨by omega, by omega⟩, by go_num, hg4, hl2, hi2, hb4⟩
          | ((repeat apply Exists.intro); exact ⟨⟨k + m, _, ⟨by omega, by omega⟩, by go_num, hg4, hl2, hi2, hb4⟩, rfl⟩)
    · have hkn : k = n := by omega
      have HO : Hid (Owns elInt wr w1.heap.size 3 (.slice (some ⟨w1.heap.size, 0, none⟩) n n) (List.replicate n x)) := by
        refine Owns.of_blk (n := n) (cap := n) (cur := L.toArray) hg.out (Nat.le_refl _) (by simp) (Nat.le_refl _) (by show L.toArray.size = n * 1; simp; exact hl.out) (by unfold maxLen; omega) (fun j y hj hy i u hu => ?_)
        have hu' : [Value.int .i64 y][i]? = some u := hu
        match i, hu' with
        | 0, hu' =>
          simp at hu'; subst hu'
          rw [List.getElem?_replicate, if_pos hj] at hy
          injection hy with hy; subst hy
          have e : j * elInt.sz + 0 = j := by show j * 1 + 0 = j; omega
          rw [e]
          simpa using his.out j (by omega)
        | i + 1, hu' => simp at hu'
      clear hg hl his hkn
      go_wp2
      go_ret
      exact ⟨_, rfl, HO.out, hb⟩
end Go.Proofs.YtgoegldffjfmdaaGreat
