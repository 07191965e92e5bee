/- Lemmas and walks that the claim rests on, laid together. Conditions: none. -/
import Derived.Test.YtjfafhehpfjofaaGreatZ9a562a3a5e02
import Derived.Shelf.Small.Bits
import Derived.Shelf.Strconv.Itoa0
import Derived.Shelf.Sort.Plain
import Derived.Shelf.Bits.Mul64
import Derived.Shelf.Slices.Turned
import Derived.Ground.Names2Prog
import Derived.Shelf.Slices.Clone
import Derived.Shelf.Slices.CompactI
import Derived.Shelf.Slices.SearchI
import Derived.Shelf.Slices.Cells
import Derived.Shelf.Slices.In.SortNone
import Derived.Ground.SlgnProg
import Derived.Shelf.SlicesE.Clone
import Derived.Test.YtjfafhehpfjofaaGreatProg
import Derived.Test.YtjfafhehpfjofaaGreatZ993f646c34a5
import Derived.Laws.CopyOwn
import Derived.Laws.OwnMore
import Derived.Deep.LoopGhost
/- l5Best.better of the reference, walked. Conditions: none. By bbs.py. -/
namespace Go.Proofs.YtjfafhehpfjofaaGreat
open Go.RowKit
/-- The search's box. -/
def bxX (A : Option Addr) (n c : Nat) (A' : Option Addr) (m d to : Nat) (G : Option Addr) (gk cg : Nat) (Dl : Option Addr) (cd : Nat) (few : Bool) (s : Int) (o : Option (List Int)) (RV : Value) : Array Value := #[.slice A n c, .slice A' m d, .int .i64 (to : Int), .slice G gk cg, .slice Dl n cd, .bool few, .bool o.isSome, .int .i64 (frS o s), RV]
theorem btR_two {few : Bool} {fs : List Fib} {s : Int} {b r : List Int} : btR few fs s (some b) r = if few && !(r.length == b.length) then decide (r.length < b.length) else decide (ordR fs s r s b < 0) := rfl
def okO (fs : List Fib) (n : Nat) (o : Option (List Int)) : Prop := ∀ r, o = some r → r.length ≤ n ∧ ∀ x ∈ r, 0 ≤ x ∧ x < fs.length
section
variable {w0 : World} {n c m d gx gk cg cd : Nat} {A A' G Dl : Option Addr} {xs : List ByteArray} {fs : List Fib} {s to : Nat}
set_option maxHeartbeats 4000000 in
set_option maxRecDepth 100000 in
theorem better_any (hn : NetIs w0 A n c A' m d xs fs) (hG : goodB xs fs = true) (hs8 : s ≤ 1048576) (few : Bool) {o : Option (List Int)} {ids : List Int} {RV : Value} {R : List Thing} {B : Option Addr} {e b b2 : Nat} {w : World} (hids : ids.length ≤ 1048576 ∧ ∀ x ∈ ids, 0 ≤ x ∧ x < fs.length) (hok : okO fs n o)
    (h : Led w0 w (tOwns elInt b 3 (.slice B ids.length e) ids :: tOwns elInt b2 3 RV (frL o) :: tBlk gx 77 (bxX A n c A' m d to G gk cg Dl cd few (s : Int) o RV) :: R)) :
    Calls Tryz.prog 74 #[.pointer (some ⟨gx, 0, none⟩), .agg #[.int .i64 (s : Int), .slice B ids.length e]] w fun e' w' => e' = .returned (.bool (btR few fs (s : Int) o ids)) ∧ Below w.heap.size w w' := by
  obtain ⟨he, hn0, hn8, hm14⟩ := good_parts hn hG
  have H0 := hid (h.blk_ w.heap.size rfl 32 #[.int .i64 (s : Int), .slice B ids.length e])
  have HB0 := hid (bl_alloc (Below.refl w.heap.size w) (.cells #[.int .i64 (s : Int), .slice B ids.length e] 32))
  obtain ⟨hie, hii⟩ : ids.length ≤ e ∧ True := ⟨by
    obtain ⟨A1, c1, hv, hc1⟩ := h.form 0 rfl
    injection hv with _ _ e3
    rw [e3]; exact hc1, trivial⟩
  obtain ⟨RA, rc, hRV, hrc⟩ := h.form 1 rfl
  subst hRV
  have HN := hid hn
  have HG := hid hG
  have HIDS := hid hids.2
  have hi1 := hids.1
  clear h hn he hids hii
  unfold bxX at H0
  cases o with
  | none =>
    have p6 := H0.out.cell 3 6 rfl rfl
    go_enter Tryz.func74, Tryz.ntmps74
    go_wp2_with fail
    go_ret
    exact ⟨rfl, HB0.out⟩
  | some r =>
    have hok2 := hok r rfl
    have HOK := hid hok2.2
    have hrn := hok2.1
    clear hok hok2
    have hF : frL (some r) = r := rfl
    have hF2 : frS (some r) (s : Int) = (s : Int) := rfl
    rw [hF] at hrc
    rw [hF, hF2] at H0
    clear hF hF2
    have p6 := H0.out.cell 3 6 rfl rfl
    have HC : Hid (∀ w', Cls (w.alloc (.cells #[.int .i64 (s : Int), .slice B ids.length e] 32)) w' → Calls Tryz.prog 95 #[.agg #[.slice A n c, .slice A' m d], .agg #[.int .i64 (s : Int), .slice B ids.length e], .agg #[.int .i64 (s : Int), .slice RA r.length rc]] w' fun e w2 => e = .returned (.int .i64 (ordR fs (s : Int) ids (s : Int) r)) ∧ Below w'.heap.size w' w2) := fun w' hw' =>
      l4Compare_any w' (HN.out.grow (H0.out.step hw').bl) ⟨⟨hie, hi1⟩, (H0.out.step hw').seesI 1 rfl⟩ ⟨⟨hrc, by omega⟩, (H0.out.step hw').seesI 2 rfl⟩ (goodB_lens HG.out) HIDS.out HOK.out ⟨by omega, by omega⟩ ⟨by omega, by omega⟩
    have C0 : ∀ w', Cls (w.alloc (.cells #[.int .i64 (s : Int), .slice B ids.length e] 32)) w' → w'.cell? ⟨gx, 0, none⟩ = some (.slice A n c) := fun _ h => h.cell (H0.out.cell 3 0 rfl rfl)
    have C1 : ∀ w', Cls (w.alloc (.cells #[.int .i64 (s : Int), .slice B ids.length e] 32)) w' → w'.cell? ⟨gx, 1, none⟩ = some (.slice A' m d) := fun _ h => h.cell (H0.out.cell 3 1 rfl rfl)
    have C5 : ∀ w', Cls (w.alloc (.cells #[.int .i64 (s : Int), .slice B ids.length e] 32)) w' → w'.cell? ⟨gx, 5, none⟩ = some (.bool few) := fun _ h => h.cell (H0.out.cell 3 5 rfl rfl)
    have C7 : ∀ w', Cls (w.alloc (.cells #[.int .i64 (s : Int), .slice B ids.length e] 32)) w' → w'.cell? ⟨gx, 7, none⟩ = some (.int .i64 (s : Int)) := fun _ h => h.cell (H0.out.cell 3 7 rfl rfl)
    have C8 : ∀ w', Cls (w.alloc (.cells #[.int .i64 (s : Int), .slice B ids.length e] 32)) w' → w'.cell? ⟨gx, 8, none⟩ = some (.slice RA r.length rc) := fun _ h => h.cell (H0.out.cell 3 8 rfl rfl)
    have C10 : ∀ w', Cls (w.alloc (.cells #[.int .i64 (s : Int), .slice B ids.length e] 32)) w' → w'.cell? ⟨w.heap.size, 0, none⟩ = some (.int .i64 (s : Int)) := fun _ h => h.cell (H0.out.cell 0 0 rfl rfl)
    have C11 : ∀ w', Cls (w.alloc (.cells #[.int .i64 (s : Int), .slice B ids.length e] 32)) w' → w'.cell? ⟨w.heap.size, 1, none⟩ = some (.slice B ids.length e) := fun _ h => h.cell (H0.out.cell 0 1 rfl rfl)
    have HBO := HB0
    obtain ⟨x, hx⟩ : ∃ x, ordR fs (s : Int) ids (s : Int) r = x := ⟨_, rfl⟩
    have HX := hid hx
    rw [hx] at HC
    clear hx
    cases few
    · have HR : Hid (btR false fs (s : Int) (some r) ids = decide (x < 0)) := by unfold Hid; rw [btR_two]; rw [HX.out]; rfl
      go_enter Tryz.func74, Tryz.ntmps74
      go_wp2_with fail
      refine region_cls (by kernel_rfl) (by kernel_rfl) ?_
      repeat (first
        | ((with_reducible refine quiet_pos ?_ (fun K hK => ?_))
           · rfl
           apply Exists.intro
           refine ⟨fun w' hw' => ?_, ?_⟩
           · go_simp
             with_reducible rfl
           simp only [Act.put, List.setIfInBounds_toArray, List.set_cons_zero, List.set_cons_succ]
           refine hK _ ?_; clear hK K)
        | ((with_reducible refine quiet_neg ?_ (fun K hK => ?_))
           · rfl
           simp only [Act.put, List.setIfInBounds_toArray, List.set_cons_zero, List.set_cons_succ]
           refine hK _ ?_; clear hK K))
      with_reducible refine wpQuiet_nil ?_
      intro wz hwz'
      have hcl := HB0.out.trans (hwz'.mono HB0.out.size)
      have H1 := hid (H0.out.step hwz')
      have HC1 : Hid (∀ w', Cls wz w' → _) := fun w' h => HC.out w' (hwz'.trans (h.mono hwz'.size))
      clear C0 C1 C5 C7 C8 C10 C11 HC
      replace HC := HC1
      clear HC1 hwz'
      have C0 : ∀ w', Cls wz w' → w'.cell? ⟨gx, 0, none⟩ = some (.slice A n c) := fun _ h => h.cell (H1.out.cell 3 0 rfl rfl)
      have C1 : ∀ w', Cls wz w' → w'.cell? ⟨gx, 1, none⟩ = some (.slice A' m d) := fun _ h => h.cell (H1.out.cell 3 1 rfl rfl)
      have C5 : ∀ w', Cls wz w' → w'.cell? ⟨gx, 5, none⟩ = some (.bool _) := fun _ h => h.cell (H1.out.cell 3 5 rfl rfl)
      have C7 : ∀ w', Cls wz w' → w'.cell? ⟨gx, 7, none⟩ = some (.int .i64 (s : Int)) := fun _ h => h.cell (H1.out.cell 3 7 rfl rfl)
      have C8 : ∀ w', Cls wz w' → w'.cell? ⟨gx, 8, none⟩ = some (.slice RA r.length rc) := fun _ h => h.cell (H1.out.cell 3 8 rfl rfl)
      have C10 : ∀ w', Cls wz w' → w'.cell? ⟨w.heap.size, 0, none⟩ = some (.int .i64 (s : Int)) := fun _ h => h.cell (H1.out.cell 0 0 rfl rfl)
      have C11 : ∀ w', Cls wz w' → w'.cell? ⟨w.heap.size, 1, none⟩ = some (.slice B ids.length e) := fun _ h => h.cell (H1.out.cell 0 1 rfl rfl)
      go_wp2_with fail
      refine region_cls (by kernel_rfl) (by kernel_rfl) ?_
      repeat (first
        | ((with_reducible refine quiet_pos ?_ (fun K hK => ?_))
           · rfl
           apply Exists.intro
           refine ⟨fun w' hw' => ?_, ?_⟩
           · go_simp
             first
               | with_reducible rfl
               | go_at_call 95; with_reducible exact hw'.call (HC.out _ hw')
           simp only [Act.put, List.setIfInBounds_toArray, List.set_cons_zero, List.set_cons_succ]
           refine hK _ ?_; clear hK K)
        | ((with_reducible refine quiet_neg ?_ (fun K hK => ?_))
           · rfl
           simp only [Act.put, List.setIfInBounds_toArray, List.set_cons_zero, List.set_cons_succ]
           refine hK _ ?_; clear hK K))
      with_reducible refine wpQuiet_nil ?_
      intro wz hwz'
      have hcl2 := hcl.trans (hwz'.mono hcl.size)
      go_wp2_with fail
      go_ret
      exact ⟨by rw [HR.out]; rfl, hcl2⟩
    · by_cases hlen : ids.length = r.length
      · have HR : Hid (btR true fs (s : Int) (some r) ids = decide (x < 0)) := by
          unfold Hid; rw [btR_two]
          have h2 : (ids.length == r.length) = true := by rw [beq_iff_eq]; exact hlen
          rw [HX.out, h2]; rfl
        have hne : ((ids.length : Int) != (r.length : Int)) = false := by rw [hlen]; simp
        have HLE := hid hlen
        clear hlen
        go_enter Tryz.func74, Tryz.ntmps74
        go_wp2_with fail
        refine region_cls (by kernel_rfl) (by kernel_rfl) ?_
        repeat (first
          | ((with_reducible refine quiet_pos ?_ (fun K hK => ?_))
             · rfl
             apply Exists.intro
             refine ⟨fun w' hw' => ?_, ?_⟩
             · go_simp
               with_reducible rfl
             simp only [Act.put, List.setIfInBounds_toArray, List.set_cons_zero, List.set_cons_succ]
             refine hK _ ?_; clear hK K)
          | ((with_reducible refine quiet_neg ?_ (fun K hK => ?_))
             · rfl
             simp only [Act.put, List.setIfInBounds_toArray, List.set_cons_zero, List.set_cons_succ]
             refine hK _ ?_; clear hK K))
        with_reducible refine wpQuiet_nil ?_
        intro wz hwz'
        have hcl := HB0.out.trans (hwz'.mono HB0.out.size)
        have H1 := hid (H0.out.step hwz')
        have HC1 : Hid (∀ w', Cls wz w' → _) := fun w' h => HC.out w' (hwz'.trans (h.mono hwz'.size))
        clear C0 C1 C5 C7 C8 C10 C11 HC
        replace HC := HC1
        clear HC1 hwz'
        have C0 : ∀ w', Cls wz w' → w'.cell? ⟨gx, 0, none⟩ = some (.slice A n c) := fun _ h => h.cell (H1.out.cell 3 0 rfl rfl)
        have C1 : ∀ w', Cls wz w' → w'.cell? ⟨gx, 1, none⟩ = some (.slice A' m d) := fun _ h => h.cell (H1.out.cell 3 1 rfl rfl)
        have C5 : ∀ w', Cls wz w' → w'.cell? ⟨gx, 5, none⟩ = some (.bool _) := fun _ h => h.cell (H1.out.cell 3 5 rfl rfl)
        have C7 : ∀ w', Cls wz w' → w'.cell? ⟨gx, 7, none⟩ = some (.int .i64 (s : Int)) := fun _ h => h.cell (H1.out.cell 3 7 rfl rfl)
        have C8 : ∀ w', Cls wz w' → w'.cell? ⟨gx, 8, none⟩ = some (.slice RA r.length rc) := fun _ h => h.cell (H1.out.cell 3 8 rfl rfl)
        have C10 : ∀ w', Cls wz w' → w'.cell? ⟨w.heap.size, 0, none⟩ = some (.int .i64 (s : Int)) := fun _ h => h.cell (H1.out.cell 0 0 rfl rfl)
        have C11 : ∀ w', Cls wz w' → w'.cell? ⟨w.heap.size, 1, none⟩ = some (.slice B ids.length e) := fun _ h => h.cell (H1.out.cell 0 1 rfl rfl)
        go_wp2_with fail
        refine region_cls (by kernel_rfl) (by kernel_rfl) ?_
        repeat (first
          | ((with_reducible refine quiet_pos ?_ (fun K hK => ?_))
             · rfl
             apply Exists.intro
             refine ⟨fun w' hw' => ?_, ?_⟩
             · go_simp
               first
                 | with_reducible rfl
                 | go_at_call 95; with_reducible exact hw'.call (HC.out _ hw')
             simp only [Act.put, List.setIfInBounds_toArray, List.set_cons_zero, List.set_cons_succ]
             refine hK _ ?_; clear hK K)
          | ((with_reducible refine quiet_neg ?_ (fun K hK => ?_))
             · rfl
             simp only [Act.put, List.setIfInBounds_toArray, List.set_cons_zero, List.set_cons_succ]
             refine hK _ ?_; clear hK K))
        with_reducible refine wpQuiet_nil ?_
        intro wz hwz'
        have hcl2 := hcl.trans (hwz'.mono hcl.size)
        go_wp2_with fail
        go_ret
        exact ⟨by rw [HR.out]; rfl, hcl2⟩
      · have HR : Hid (btR true fs (s : Int) (some r) ids = decide (ids.length < r.length)) := by
          unfold Hid; rw [btR_two]
          have h2 : (ids.length == r.length) = false := by rw [beq_eq_false_iff_ne]; exact hlen
          rw [h2]
          simp
        have hne : ((ids.length : Int) != (r.length : Int)) = true := by rw [bne_iff_ne]; omega
        clear hlen
        go_enter Tryz.func74, Tryz.ntmps74
        go_wp2_with fail
        refine region_cls (by kernel_rfl) (by kernel_rfl) ?_
        repeat (first
          | ((with_reducible refine quiet_pos ?_ (fun K hK => ?_))
             · rfl
             apply Exists.intro
             refine ⟨fun w' hw' => ?_, ?_⟩
             · go_simp
               with_reducible rfl
             simp only [Act.put, List.setIfInBounds_toArray, List.set_cons_zero, List.set_cons_succ]
             refine hK _ ?_; clear hK K)
          | ((with_reducible refine quiet_neg ?_ (fun K hK => ?_))
             · rfl
             simp only [Act.put, List.setIfInBounds_toArray, List.set_cons_zero, List.set_cons_succ]
             refine hK _ ?_; clear hK K))
        with_reducible refine wpQuiet_nil ?_
        intro wz hwz'
        have hcl := HB0.out.trans (hwz'.mono HB0.out.size)
        have H1 := hid (H0.out.step hwz')
        have HC1 : Hid (∀ w', Cls wz w' → _) := fun w' h => HC.out w' (hwz'.trans (h.mono hwz'.size))
        clear C0 C1 C5 C7 C8 C10 C11 HC
        replace HC := HC1
        clear HC1 hwz'
        have C0 : ∀ w', Cls wz w' → w'.cell? ⟨gx, 0, none⟩ = some (.slice A n c) := fun _ h => h.cell (H1.out.cell 3 0 rfl rfl)
        have C1 : ∀ w', Cls wz w' → w'.cell? ⟨gx, 1, none⟩ = some (.slice A' m d) := fun _ h => h.cell (H1.out.cell 3 1 rfl rfl)
        have C5 : ∀ w', Cls wz w' → w'.cell? ⟨gx, 5, none⟩ = some (.bool _) := fun _ h => h.cell (H1.out.cell 3 5 rfl rfl)
        have C7 : ∀ w', Cls wz w' → w'.cell? ⟨gx, 7, none⟩ = some (.int .i64 (s : Int)) := fun _ h => h.cell (H1.out.cell 3 7 rfl rfl)
        have C8 : ∀ w', Cls wz w' → w'.cell? ⟨gx, 8, none⟩ = some (.slice RA r.length rc) := fun _ h => h.cell (H1.out.cell 3 8 rfl rfl)
        have C10 : ∀ w', Cls wz w' → w'.cell? ⟨w.heap.size, 0, none⟩ = some (.int .i64 (s : Int)) := fun _ h => h.cell (H1.out.cell 0 0 rfl rfl)
        have C11 : ∀ w', Cls wz w' → w'.cell? ⟨w.heap.size, 1, none⟩ = some (.slice B ids.length e) := fun _ h => h.cell (H1.out.cell 0 1 rfl rfl)
        go_wp2_with fail
        refine region_cls (by kernel_rfl) (by kernel_rfl) ?_
        repeat (first
          | ((with_reducible refine quiet_pos ?_ (fun K hK => ?_))
             · rfl
             apply Exists.intro
             refine ⟨fun w' hw' => ?_, ?_⟩
             · go_simp
               with_reducible rfl
             simp only [Act.put, List.setIfInBounds_toArray, List.set_cons_zero, List.set_cons_succ]
             refine hK _ ?_; clear hK K)
          | ((with_reducible refine quiet_neg ?_ (fun K hK => ?_))
             · rfl
             simp only [Act.put, List.setIfInBounds_toArray, List.set_cons_zero, List.set_cons_succ]
             refine hK _ ?_; clear hK K))
        with_reducible refine wpQuiet_nil ?_
        intro wz hwz'
        have hcl2 := hcl.trans (hwz'.mono hcl.size)
        go_wp2_with fail
        go_ret
        exact ⟨by rw [HR.out]; rfl, hcl2⟩
end
end Go.Proofs.YtjfafhehpfjofaaGreat
/-
  DERIVED: THE SHELF's CONTRACTS AT THIS DUMP, IN PLAIN WORDS (tools/lay-plain.mjs out of 'TryzShelf.lean', which tools/lay-shelf.mjs wrote): THE SAME DECLARATIONS UNDER THE SAME NAMES: 'import', 'namespace', 'open', 'def', 'theorem' AND NOTHING ELSE: no command of the shelf's: FOR A HAND-IN. Each laying: the table of numbers ('.._ren') and one theorem, a field a fact of the dump's own or the kernel's comparison; each contract: ONE APPLICATION.
-/
namespace Go.Proofs
open Go.Shelf
def Tryz.lays128_ren : Go.Shelf.Ren := ⟨fun | 128 => 92 | n => n, fun | 51 => 114 | 3 => 3 | 4 => 4 | 46 => 90 | 5 => 5 | 9 => 9 | n => n, fun | n => n⟩
theorem Tryz.lays128 : Go.Proofs.Lays.n128 Tryz.prog Tryz.lays128_ren := {
  mixed := by kernel_rfl
  f128 := Tryz.func92.trans (congrArg some (by kernel_rfl))
  t3 := Tryz.underlying3
  a3 := Tryz.isAgg3
  z3 := Tryz.sizeOf3
  v3 := Tryz.zeroValue3
  t4 := Tryz.underlying4
  a4 := Tryz.isAgg4
  z4 := Tryz.sizeOf4
  v4 := Tryz.zeroValue4
  t5 := Tryz.underlying5
  a5 := Tryz.isAgg5
  z5 := Tryz.sizeOf5
  v5 := Tryz.zeroValue5
  t9 := Tryz.underlying9
  a9 := Tryz.isAgg9
  z9 := Tryz.sizeOf9
  v9 := Tryz.zeroValue9
  t46 := Tryz.underlying90
  a46 := Tryz.isAgg90
  z46 := Tryz.sizeOf90
  v46 := Tryz.zeroValue90
  t51 := Tryz.underlying114
  a51 := Tryz.isAgg114
  z51 := Tryz.sizeOf114
  v51 := Tryz.zeroValue114 }
/-- bits.Len32: "Len32 returns the minimum number of bits required to represent x; the result is 0 for x == 0.": IT RETURNS 'Lib.bitLen x'; the world is as it was. ('h0', 'h1': x is a uint32.) (LAID: no walk: one application.) -/
theorem Tryz.bits_Len32 (x : Int) (w : World) (h0 : 0 ≤ x) (h1 : x ≤ 4294967295) :
    Calls Tryz.prog 92 #[.int .u32 x] w fun e w' => e = .returned (.int .i64 (Lib.bitLen x.toNat)) ∧ w' = w := Any.bits_Len32 Tryz.lays128 x w h0 h1
def Tryz.lays125_ren : Go.Shelf.Ren := ⟨fun | 125 => 68 | 128 => 92 | 129 => 93 | n => n, fun | 46 => 90 | 3 => 3 | 51 => 114 | 53 => 41 | 4 => 4 | 5 => 5 | 9 => 9 | n => n, fun | n => n⟩
theorem Tryz.lays125 : Go.Proofs.Lays.n125 Tryz.prog Tryz.lays125_ren := {
  mixed := by kernel_rfl
  f125 := Tryz.func68.trans (congrArg some (by kernel_rfl))
  f128 := Tryz.func92.trans (congrArg some (by kernel_rfl))
  f129 := Tryz.func93.trans (congrArg some (by kernel_rfl))
  t3 := Tryz.underlying3
  a3 := Tryz.isAgg3
  z3 := Tryz.sizeOf3
  v3 := Tryz.zeroValue3
  t4 := Tryz.underlying4
  a4 := Tryz.isAgg4
  z4 := Tryz.sizeOf4
  v4 := Tryz.zeroValue4
  t5 := Tryz.underlying5
  a5 := Tryz.isAgg5
  z5 := Tryz.sizeOf5
  v5 := Tryz.zeroValue5
  t9 := Tryz.underlying9
  a9 := Tryz.isAgg9
  z9 := Tryz.sizeOf9
  v9 := Tryz.zeroValue9
  t46 := Tryz.underlying90
  a46 := Tryz.isAgg90
  z46 := Tryz.sizeOf90
  v46 := Tryz.zeroValue90
  t51 := Tryz.underlying114
  a51 := Tryz.isAgg114
  z51 := Tryz.sizeOf114
  v51 := Tryz.zeroValue114
  t53 := Tryz.underlying41
  a53 := Tryz.isAgg41
  z53 := Tryz.sizeOf41
  v53 := Tryz.zeroValue41 }
/-- bits.Len: "Len returns the minimum number of bits required to represent x; the result is 0 for x == 0.": IT RETURNS 'Lib.bitLen x'; the world is as it was. (A uint has 64 bits in the model.) ITS CALLEE bits.Len64 IS MET BY ITS OWN CONTRACT OFF THE SHELF (lay that first). (LAID: no walk: one application.) -/
theorem Tryz.bits_Len (x : Int) (w : World) (h0 : 0 ≤ x) (h1 : x ≤ 18446744073709551615) :
    Calls Tryz.prog 68 #[.int .u64 x] w fun e w' => e = .returned (.int .i64 (Lib.bitLen x.toNat)) ∧ w' = w := Any.bits_Len Tryz.lays125 x w h0 h1
def Tryz.lays129_ren : Go.Shelf.Ren := ⟨fun | 129 => 93 | n => n, fun | 53 => 41 | 3 => 3 | 4 => 4 | 46 => 90 | 5 => 5 | 9 => 9 | n => n, fun | n => n⟩
theorem Tryz.lays129 : Go.Proofs.Lays.n129 Tryz.prog Tryz.lays129_ren := {
  mixed := by kernel_rfl
  f129 := Tryz.func93.trans (congrArg some (by kernel_rfl))
  t3 := Tryz.underlying3
  a3 := Tryz.isAgg3
  z3 := Tryz.sizeOf3
  v3 := Tryz.zeroValue3
  t4 := Tryz.underlying4
  a4 := Tryz.isAgg4
  z4 := Tryz.sizeOf4
  v4 := Tryz.zeroValue4
  t5 := Tryz.underlying5
  a5 := Tryz.isAgg5
  z5 := Tryz.sizeOf5
  v5 := Tryz.zeroValue5
  t9 := Tryz.underlying9
  a9 := Tryz.isAgg9
  z9 := Tryz.sizeOf9
  v9 := Tryz.zeroValue9
  t46 := Tryz.underlying90
  a46 := Tryz.isAgg90
  z46 := Tryz.sizeOf90
  v46 := Tryz.zeroValue90
  t53 := Tryz.underlying41
  a53 := Tryz.isAgg41
  z53 := Tryz.sizeOf41
  v53 := Tryz.zeroValue41 }
/-- bits.Len64: "Len64 returns the minimum number of bits required to represent x; the result is 0 for x == 0.": IT RETURNS 'Lib.bitLen x'; the world is as it was. ('h0', 'h1': x is a uint64.) (LAID: no walk: one application.) -/
theorem Tryz.bits_Len64 (x : Int) (w : World) (h0 : 0 ≤ x) (h1 : x ≤ 18446744073709551615) :
    Calls Tryz.prog 93 #[.int .u64 x] w fun e w' => e = .returned (.int .i64 (Lib.bitLen x.toNat)) ∧ w' = w := Any.bits_Len64 Tryz.lays129 x w h0 h1
def Tryz.lays189_ren : Go.Shelf.Ren := ⟨fun | 189 => 42 | 125 => 68 | 257 => 67 | 128 => 92 | 129 => 93 | 294 => 83 | 295 => 84 | 296 => 85 | 297 => 86 | 298 => 87 | 299 => 88 | 216 => 89 | 300 => 90 | 301 => 91 | 328 => 106 | 329 => 107 | 330 => 108 | 331 => 109 | 332 => 110 | 215 => 58 | 343 => 115 | n => n, fun | 28 => 28 | 3 => 3 | 46 => 90 | 0 => 0 | 51 => 114 | 53 => 41 | 4 => 4 | 183 => 108 | 182 => 107 | 131 => 37 | 5 => 5 | 9 => 9 | 218 => 126 | 222 => 130 | 228 => 134 | 229 => 135 | n => n, fun | n => n⟩
theorem Tryz.lays189 : Go.Proofs.Lays.n189 Tryz.prog Tryz.lays189_ren := {
  mixed := by kernel_rfl
  f125 := Tryz.func68.trans (congrArg some (by kernel_rfl))
  f128 := Tryz.func92.trans (congrArg some (by kernel_rfl))
  f129 := Tryz.func93.trans (congrArg some (by kernel_rfl))
  f189 := Tryz.func42.trans (congrArg some (by kernel_rfl))
  f215 := Tryz.func58.trans (congrArg some (by kernel_rfl))
  f216 := Tryz.func89.trans (congrArg some (by kernel_rfl))
  f257 := Tryz.func67.trans (congrArg some (by kernel_rfl))
  f294 := Tryz.func83.trans (congrArg some (by kernel_rfl))
  f295 := Tryz.func84.trans (congrArg some (by kernel_rfl))
  f296 := Tryz.func85.trans (congrArg some (by kernel_rfl))
  f297 := Tryz.func86.trans (congrArg some (by kernel_rfl))
  f298 := Tryz.func87.trans (congrArg some (by kernel_rfl))
  f299 := Tryz.func88.trans (congrArg some (by kernel_rfl))
  f300 := Tryz.func90.trans (congrArg some (by kernel_rfl))
  f301 := Tryz.func91.trans (congrArg some (by kernel_rfl))
  f328 := Tryz.func106.trans (congrArg some (by kernel_rfl))
  f329 := Tryz.func107.trans (congrArg some (by kernel_rfl))
  f330 := Tryz.func108.trans (congrArg some (by kernel_rfl))
  f331 := Tryz.func109.trans (congrArg some (by kernel_rfl))
  f332 := Tryz.func110.trans (congrArg some (by kernel_rfl))
  f343 := Tryz.func115.trans (congrArg some (by kernel_rfl))
  t0 := Tryz.underlying0
  a0 := Tryz.isAgg0
  z0 := Tryz.sizeOf0
  v0 := Tryz.zeroValue0
  t3 := Tryz.underlying3
  a3 := Tryz.isAgg3
  z3 := Tryz.sizeOf3
  v3 := Tryz.zeroValue3
  t4 := Tryz.underlying4
  a4 := Tryz.isAgg4
  z4 := Tryz.sizeOf4
  v4 := Tryz.zeroValue4
  t5 := Tryz.underlying5
  a5 := Tryz.isAgg5
  z5 := Tryz.sizeOf5
  v5 := Tryz.zeroValue5
  t9 := Tryz.underlying9
  a9 := Tryz.isAgg9
  z9 := Tryz.sizeOf9
  v9 := Tryz.zeroValue9
  t28 := Tryz.underlying28
  a28 := Tryz.isAgg28
  z28 := Tryz.sizeOf28
  v28 := Tryz.zeroValue28
  t46 := Tryz.underlying90
  a46 := Tryz.isAgg90
  z46 := Tryz.sizeOf90
  v46 := Tryz.zeroValue90
  t51 := Tryz.underlying114
  a51 := Tryz.isAgg114
  z51 := Tryz.sizeOf114
  v51 := Tryz.zeroValue114
  t53 := Tryz.underlying41
  a53 := Tryz.isAgg41
  z53 := Tryz.sizeOf41
  v53 := Tryz.zeroValue41
  t131 := Tryz.underlying37
  a131 := Tryz.isAgg37
  z131 := Tryz.sizeOf37
  v131 := Tryz.zeroValue37
  t182 := Tryz.underlying107
  a182 := Tryz.isAgg107
  z182 := Tryz.sizeOf107
  v182 := Tryz.zeroValue107
  t183 := Tryz.underlying108
  a183 := Tryz.isAgg108
  z183 := Tryz.sizeOf108
  v183 := Tryz.zeroValue108
  t218 := Tryz.underlying126
  a218 := Tryz.isAgg126
  z218 := Tryz.sizeOf126
  v218 := Tryz.zeroValue126
  t222 := Tryz.underlying130
  a222 := Tryz.isAgg130
  z222 := Tryz.sizeOf130
  v222 := Tryz.zeroValue130
  t228 := Tryz.underlying134
  a228 := Tryz.isAgg134
  z228 := Tryz.sizeOf134
  v228 := Tryz.zeroValue134
  t229 := Tryz.underlying135
  a229 := Tryz.isAgg135
  z229 := Tryz.sizeOf135
  v229 := Tryz.zeroValue135 }
open Go.Sort Go.RowKit in
theorem Tryz.slices_Sort_int (blk off cap : Nat) (zs : List Int) (w : World) (hH : Holds (Value.int .i64) w blk off zs.toArray) (hblk : blk < w.heap.size) (hsz : zs.length < 4611686018427387904) :
    Calls Tryz.prog 42 #[.slice (some ⟨blk, off, none⟩) zs.length cap] w fun e w' =>
      e = .returned (.tuple #[]) ∧ ∃ n os, w' = grow (putRow (Value.int .i64) (Sort.ahead w n) blk off (zs.mergeSort fun x y => decide (x ≤ y)).toArray) os := Any.slices_Sort_int Tryz.lays189 blk off cap zs w hH hblk hsz
def Tryz.lays264_ren : Go.Shelf.Ren := ⟨fun | 264 => 97 | n => n, fun | 53 => 41 | 46 => 90 | n => n, fun | n => n⟩
theorem Tryz.lays264 : Go.Proofs.Lays.n264 Tryz.prog Tryz.lays264_ren := {
  mixed := by kernel_rfl
  f264 := Tryz.func97.trans (congrArg some (by kernel_rfl))
  t46 := Tryz.underlying90
  a46 := Tryz.isAgg90
  z46 := Tryz.sizeOf90
  v46 := Tryz.zeroValue90
  t53 := Tryz.underlying41
  a53 := Tryz.isAgg41
  z53 := Tryz.sizeOf41
  v53 := Tryz.zeroValue41 }
open Go.RowKit Go.Lib in
theorem Tryz.bits_Mul64 (x y : Nat) (hx : x < 18446744073709551616) (hy : y < 18446744073709551616) (w : World) :
    Calls Tryz.prog 97 #[.int .u64 x, .int .u64 y] w fun e w' => e = .returned (.tuple #[.int .u64 ((x * y / 18446744073709551616 : Nat) : Int), .int .u64 ((x * y % 18446744073709551616 : Nat) : Int)]) ∧ w' = w := Any.bits_Mul64 Tryz.lays264 x y hx hy w
def Tryz.lays212_ren : Go.Shelf.Ren := ⟨fun | 212 => 78 | 263 => 96 | 264 => 97 | n => n, fun | 46 => 90 | 51 => 114 | 146 => 117 | 53 => 41 | 148 => 119 | n => n, fun | n => n⟩
theorem Tryz.lays212 : Go.Proofs.Lays.n212 Tryz.prog Tryz.lays212_ren := {
  mixed := by kernel_rfl
  f212 := Tryz.func78.trans (congrArg some (by kernel_rfl))
  f263 := Tryz.func96.trans (congrArg some (by kernel_rfl))
  f264 := Tryz.func97.trans (congrArg some (by kernel_rfl))
  t46 := Tryz.underlying90
  a46 := Tryz.isAgg90
  z46 := Tryz.sizeOf90
  v46 := Tryz.zeroValue90
  t51 := Tryz.underlying114
  a51 := Tryz.isAgg114
  z51 := Tryz.sizeOf114
  v51 := Tryz.zeroValue114
  t53 := Tryz.underlying41
  a53 := Tryz.isAgg41
  z53 := Tryz.sizeOf41
  v53 := Tryz.zeroValue41
  t146 := Tryz.underlying117
  a146 := Tryz.isAgg117
  z146 := Tryz.sizeOf117
  v146 := Tryz.zeroValue117
  t148 := Tryz.underlying119
  a148 := Tryz.isAgg119
  z148 := Tryz.sizeOf119
  v148 := Tryz.zeroValue119 }
open Go.RowKit Go.Lib in
/-- math/bits.Mul: "Mul returns the full-width product of x and y": on a machine of 64 bits: Mul64's. (LAID: no walk: one application.) -/
theorem Tryz.bits_Mul (x y : Nat) (hx : x < 18446744073709551616) (hy : y < 18446744073709551616) (w : World) :
    Calls Tryz.prog 78 #[.int .u64 x, .int .u64 y] w fun e w' => e = .returned (.tuple #[.int .u64 ((x * y / 18446744073709551616 : Nat) : Int), .int .u64 ((x * y % 18446744073709551616 : Nat) : Int)]) ∧ w' = w := Any.bits_Mul Tryz.lays212 x y hx hy w
def Tryz.lays108_ren : Go.Shelf.Ren := ⟨fun | 108 => 66 | n => n, fun | 28 => 28 | 3 => 3 | 0 => 0 | 4 => 4 | n => n, fun | n => n⟩
theorem Tryz.lays108 : Go.Proofs.Lays.n108 Tryz.prog Tryz.lays108_ren := {
  mixed := by kernel_rfl
  f108 := Tryz.func66.trans (congrArg some (by kernel_rfl))
  t0 := Tryz.underlying0
  a0 := Tryz.isAgg0
  z0 := Tryz.sizeOf0
  v0 := Tryz.zeroValue0
  t3 := Tryz.underlying3
  a3 := Tryz.isAgg3
  z3 := Tryz.sizeOf3
  v3 := Tryz.zeroValue3
  t4 := Tryz.underlying4
  a4 := Tryz.isAgg4
  z4 := Tryz.sizeOf4
  v4 := Tryz.zeroValue4
  t28 := Tryz.underlying28
  a28 := Tryz.isAgg28
  z28 := Tryz.sizeOf28
  v28 := Tryz.zeroValue28 }
open Go.Lib in
/-- slices.Index at []int: "Index returns the index of the first occurrence of v in s, or -1 if not present.": IT RETURNS 'Lib.idxOf (the elements) v'; the world is as it was. 'zs': what the cells behind the slice's address hold (its spare capacity too, if you have it); 'zs.take n': its elements. (LAID: no walk: one application.) -/
theorem Tryz.slices_Index_int (b off n c : Nat) (zs : List Int) (x : Int) (w : World) (hz : n ≤ zs.length) (hbig : n ≤ 9223372036854775807) (hc : ∀ j, j < zs.length → w.cell? ⟨b, off + j, none⟩ = some (.int .i64 (zs.getD j 0))) :
    Calls Tryz.prog 66 #[.slice (some ⟨b, off, none⟩) n c, .int .i64 x] w fun e w' => e = .returned (.int .i64 (Lib.idxOf (zs.take n) x)) ∧ w' = w := Any.slices_Index_int Tryz.lays108 b off n c zs x w hz hbig hc
open Go.Lib in
/-- The same at a slice of length 0, a nil one too: no cell is known, none is asked for. (LAID: no walk: one application.) -/
theorem Tryz.slices_Index_int_empty (a : Option Addr) (c : Nat) (x : Int) (w : World) :
    Calls Tryz.prog 66 #[.slice a 0 c, .int .i64 x] w fun e w' => e = .returned (.int .i64 (Lib.idxOf [] x)) ∧ w' = w := Any.slices_Index_int_empty Tryz.lays108 a c x w
def Tryz.lays107_ren : Go.Shelf.Ren := ⟨fun | 107 => 41 | 108 => 66 | n => n, fun | 28 => 28 | 3 => 3 | 4 => 4 | 0 => 0 | n => n, fun | n => n⟩
theorem Tryz.lays107 : Go.Proofs.Lays.n107 Tryz.prog Tryz.lays107_ren := {
  mixed := by kernel_rfl
  f107 := Tryz.func41.trans (congrArg some (by kernel_rfl))
  f108 := Tryz.func66.trans (congrArg some (by kernel_rfl))
  t0 := Tryz.underlying0
  a0 := Tryz.isAgg0
  z0 := Tryz.sizeOf0
  v0 := Tryz.zeroValue0
  t3 := Tryz.underlying3
  a3 := Tryz.isAgg3
  z3 := Tryz.sizeOf3
  v3 := Tryz.zeroValue3
  t4 := Tryz.underlying4
  a4 := Tryz.isAgg4
  z4 := Tryz.sizeOf4
  v4 := Tryz.zeroValue4
  t28 := Tryz.underlying28
  a28 := Tryz.isAgg28
  z28 := Tryz.sizeOf28
  v28 := Tryz.zeroValue28 }
open Go.Lib in
/-- slices.Contains at []int: "Contains reports whether v is present in s.": IT RETURNS 'elements.contains v'; the world is as it was. ITS CALLEE slices.Index IS MET BY ITS OWN CONTRACT OFF THE SHELF (lay that first): no loop is walked here. (LAID: no walk: one application.) -/
theorem Tryz.slices_Contains_int (b off n c : Nat) (zs : List Int) (x : Int) (w : World) (hz : n ≤ zs.length) (hbig : n ≤ 9223372036854775807) (hc : ∀ j, j < zs.length → w.cell? ⟨b, off + j, none⟩ = some (.int .i64 (zs.getD j 0))) :
    Calls Tryz.prog 41 #[.slice (some ⟨b, off, none⟩) n c, .int .i64 x] w fun e w' => e = .returned (.bool ((zs.take n).contains x)) ∧ w' = w := Any.slices_Contains_int Tryz.lays107 b off n c zs x w hz hbig hc
open Go.Lib in
/-- The same at a slice of length 0, a nil one too. (LAID: no walk: one application.) -/
theorem Tryz.slices_Contains_int_empty (a : Option Addr) (c : Nat) (x : Int) (w : World) :
    Calls Tryz.prog 41 #[.slice a 0 c, .int .i64 x] w fun e w' => e = .returned (.bool false) ∧ w' = w := Any.slices_Contains_int_empty Tryz.lays107 a c x w
def Tryz.lays109_ren : Go.Shelf.Ren := ⟨fun | 109 => 82 | n => n, fun | 31 => 24 | 9 => 9 | 3 => 3 | 0 => 0 | 4 => 4 | n => n, fun | n => n⟩
theorem Tryz.lays109 : Go.Proofs.Lays.n109 Tryz.prog Tryz.lays109_ren := {
  mixed := by kernel_rfl
  f109 := Tryz.func82.trans (congrArg some (by kernel_rfl))
  t0 := Tryz.underlying0
  a0 := Tryz.isAgg0
  z0 := Tryz.sizeOf0
  v0 := Tryz.zeroValue0
  t3 := Tryz.underlying3
  a3 := Tryz.isAgg3
  z3 := Tryz.sizeOf3
  v3 := Tryz.zeroValue3
  t4 := Tryz.underlying4
  a4 := Tryz.isAgg4
  z4 := Tryz.sizeOf4
  v4 := Tryz.zeroValue4
  t9 := Tryz.underlying9
  a9 := Tryz.isAgg9
  z9 := Tryz.sizeOf9
  v9 := Tryz.zeroValue9
  t31 := Tryz.underlying24
  a31 := Tryz.isAgg24
  z31 := Tryz.sizeOf24
  v31 := Tryz.zeroValue24 }
open Go.Lib in
/-- slices.Index at []string: "Index returns the index of the first occurrence of v in s, or -1 if not present.": IT RETURNS 'Lib.idxOfS (the elements) v'; the world is as it was. 'zs': what the cells behind the slice's address hold (its spare capacity too, if you have it); 'zs.take n': its elements. (LAID: no walk: one application.) -/
theorem Tryz.slices_Index_string (b off n c : Nat) (zs : List ByteArray) (x : ByteArray) (w : World) (hz : n ≤ zs.length) (hbig : n ≤ 9223372036854775807) (hc : ∀ j, j < zs.length → w.cell? ⟨b, off + j, none⟩ = some (.string (zs.getD j ByteArray.empty))) :
    Calls Tryz.prog 82 #[.slice (some ⟨b, off, none⟩) n c, .string x] w fun e w' => e = .returned (.int .i64 (Lib.idxOfS (zs.take n) x)) ∧ w' = w := Any.slices_Index_string Tryz.lays109 b off n c zs x w hz hbig hc
open Go.Lib in
/-- The same at a slice of length 0, a nil one too: no cell is known, none is asked for. (LAID: no walk: one application.) -/
theorem Tryz.slices_Index_string_empty (a : Option Addr) (c : Nat) (x : ByteArray) (w : World) :
    Calls Tryz.prog 82 #[.slice a 0 c, .string x] w fun e w' => e = .returned (.int .i64 (Lib.idxOfS [] x)) ∧ w' = w := Any.slices_Index_string_empty Tryz.lays109 a c x w
def Tryz.lays110_ren : Go.Shelf.Ren := ⟨fun | 110 => 63 | 109 => 82 | n => n, fun | 31 => 24 | 9 => 9 | 4 => 4 | 3 => 3 | 0 => 0 | n => n, fun | n => n⟩
theorem Tryz.lays110 : Go.Proofs.Lays.n110 Tryz.prog Tryz.lays110_ren := {
  mixed := by kernel_rfl
  f109 := Tryz.func82.trans (congrArg some (by kernel_rfl))
  f110 := Tryz.func63.trans (congrArg some (by kernel_rfl))
  t0 := Tryz.underlying0
  a0 := Tryz.isAgg0
  z0 := Tryz.sizeOf0
  v0 := Tryz.zeroValue0
  t3 := Tryz.underlying3
  a3 := Tryz.isAgg3
  z3 := Tryz.sizeOf3
  v3 := Tryz.zeroValue3
  t4 := Tryz.underlying4
  a4 := Tryz.isAgg4
  z4 := Tryz.sizeOf4
  v4 := Tryz.zeroValue4
  t9 := Tryz.underlying9
  a9 := Tryz.isAgg9
  z9 := Tryz.sizeOf9
  v9 := Tryz.zeroValue9
  t31 := Tryz.underlying24
  a31 := Tryz.isAgg24
  z31 := Tryz.sizeOf24
  v31 := Tryz.zeroValue24 }
open Go.Lib in
/-- slices.Contains at []string: "Contains reports whether v is present in s.": IT RETURNS 'Lib.containsS (the elements) v', which is true just where v is among them ('Lib.containsS_iff'); the world is as it was. ITS CALLEE slices.Index IS MET BY ITS OWN CONTRACT OFF THE SHELF (lay that first): no loop is walked here. (LAID: no walk: one application.) -/
theorem Tryz.slices_Contains_string (b off n c : Nat) (zs : List ByteArray) (x : ByteArray) (w : World) (hz : n ≤ zs.length) (hbig : n ≤ 9223372036854775807) (hc : ∀ j, j < zs.length → w.cell? ⟨b, off + j, none⟩ = some (.string (zs.getD j ByteArray.empty))) :
    Calls Tryz.prog 63 #[.slice (some ⟨b, off, none⟩) n c, .string x] w fun e w' => e = .returned (.bool (Lib.containsS (zs.take n) x)) ∧ w' = w := Any.slices_Contains_string Tryz.lays110 b off n c zs x w hz hbig hc
open Go.Lib in
/-- The same at a slice of length 0, a nil one too. (LAID: no walk: one application.) -/
theorem Tryz.slices_Contains_string_empty (a : Option Addr) (c : Nat) (x : ByteArray) (w : World) :
    Calls Tryz.prog 63 #[.slice a 0 c, .string x] w fun e w' => e = .returned (.bool false) ∧ w' = w := Any.slices_Contains_string_empty Tryz.lays110 a c x w
def Tryz.laysNm215_ren : Go.Shelf.Ren := ⟨fun | 15 => 53 | n => n, fun | 22 => 28 | 3 => 3 | 4 => 4 | n => n, fun | n => n⟩
theorem Tryz.laysNm215 : Go.Proofs.Lays2.n15 Tryz.prog Tryz.laysNm215_ren := {
  mixed := by kernel_rfl
  f15 := Tryz.func53.trans (congrArg some (by kernel_rfl))
  t3 := Tryz.underlying3
  a3 := Tryz.isAgg3
  z3 := Tryz.sizeOf3
  v3 := Tryz.zeroValue3
  t4 := Tryz.underlying4
  a4 := Tryz.isAgg4
  z4 := Tryz.sizeOf4
  v4 := Tryz.zeroValue4
  t22 := Tryz.underlying28
  a22 := Tryz.isAgg28
  z22 := Tryz.sizeOf28
  v22 := Tryz.zeroValue28
  i3 := by kernel_rfl }
open Go.RowKit Go.Lib in
/-- slices.Clone at []int: "Clone returns a copy of the slice. The elements are copied using assignment, so this is a shallow clone. The result may have additional unused capacity. The result preserves the nilness of s.": OF A SLICE THAT IS NOT nil IT RETURNS A SLICE THAT IS NOT nil, OF THE SAME ELEMENTS, IN MEMORY OF THE CALL's OWN: in the how-to's words (6f): 'w'.ownsRow B e 1 v' n cells': v' begins at the head of a row among the blocks from B on (B: the heap's size at the call), not frozen, whose first cells are the elements · 'Below B w w'': below B all is as it was. The capacity is whatever the run-time gives. 'zs': what the cells behind the slice's address hold; 'zs.take n': its elements. (LAID: no walk: one application.) -/
theorem Tryz.slices_Clone_int (b off n c : Nat) (zs : List Int) (w : World) (hz : n ≤ zs.length) (hbig : n * 8 ≤ 140737488355328) (hc : ∀ j, j < zs.length → w.cell? ⟨b, off + j, none⟩ = some (.int .i64 (zs.getD j 0))) :
    Calls Tryz.prog 53 #[.slice (some ⟨b, off, none⟩) n c] w fun e w' => ∃ v', e = .returned v' ∧ w'.ownsRow w.heap.size 3 1 v' n ((zs.take n).map (Value.int .i64)) ∧ v' ≠ .slice none 0 0 ∧ Below w.heap.size w w' := Any.slices_Clone_int Tryz.laysNm215 b off n c zs w hz hbig hc
open Go.RowKit Go.Lib in
/-- The same at nil: nil comes back; the world is as it was. (LAID: no walk: one application.) -/
theorem Tryz.slices_Clone_int_nil (n c : Nat) (w : World) :
    Calls Tryz.prog 53 #[.slice none n c] w fun e w' => e = .returned (.slice none 0 0) ∧ w' = w := Any.slices_Clone_int_nil Tryz.laysNm215 n c w
open Go.RowKit Go.Lib in
/-- The same at a slice of length 0 that is not nil, WHATEVER ITS ADDRESS (no cell is asked for): a slice that is not nil and owns nothing comes back. (LAID: no walk: one application.) -/
theorem Tryz.slices_Clone_int_zero (a : Addr) (c : Nat) (w : World) :
    Calls Tryz.prog 53 #[.slice (some a) 0 c] w fun e w' => ∃ v', e = .returned v' ∧ w'.ownsRow w.heap.size 3 1 v' 0 [] ∧ v' ≠ .slice none 0 0 ∧ Below w.heap.size w w' := Any.slices_Clone_int_zero Tryz.laysNm215 a c w
def Tryz.laysNm220_ren : Go.Shelf.Ren := ⟨fun | 20 => 43 | n => n, fun | 22 => 28 | 3 => 3 | 4 => 4 | 0 => 0 | n => n, fun | n => n⟩
theorem Tryz.laysNm220 : Go.Proofs.Lays2.n20 Tryz.prog Tryz.laysNm220_ren := {
  mixed := by kernel_rfl
  f20 := Tryz.func43.trans (congrArg some (by kernel_rfl))
  t0 := Tryz.underlying0
  a0 := Tryz.isAgg0
  z0 := Tryz.sizeOf0
  v0 := Tryz.zeroValue0
  t3 := Tryz.underlying3
  a3 := Tryz.isAgg3
  z3 := Tryz.sizeOf3
  v3 := Tryz.zeroValue3
  t4 := Tryz.underlying4
  a4 := Tryz.isAgg4
  z4 := Tryz.sizeOf4
  v4 := Tryz.zeroValue4
  t22 := Tryz.underlying28
  a22 := Tryz.isAgg28
  z22 := Tryz.sizeOf28
  v22 := Tryz.zeroValue28
  i3 := by kernel_rfl }
open Go.RowKit Go.Lib Go.Sort in
/-- slices.Compact at []int, over an array: the library's two loops are walked. (LAID: no walk: one application.) -/
theorem Tryz.slices_Compact_int_arr (blk off cap : Nat) (d : Array Int) (w : World) (hH : Holds encI w blk off d) (hsz : d.size ≤ 9223372036854775807) (hcap : d.size ≤ cap) :
    Calls Tryz.prog 43 #[.slice (some ⟨blk, off, none⟩) d.size cap] w fun e w' => e = .returned (.slice (some ⟨blk, off, none⟩) (compactUpTo d d.size).length cap) ∧ ∃ q, w' = putRow encI (Sort.ahead w q) blk off (compactUpTo d d.size ++ List.replicate (d.size - (compactUpTo d d.size).length) 0).toArray := Any.slices_Compact_int_arr Tryz.laysNm220 blk off cap d w hH hsz hcap
open Go.RowKit Go.Lib Go.Sort in
/-- slices.Compact at []int: "Compact replaces consecutive runs of equal elements with a single copy. This is like the uniq command found on Unix. Compact modifies the contents of the slice s and returns the modified slice, which may have a smaller length. Compact zeroes the elements between the new length and the original length. The result preserves the nilness of s.": IT RETURNS THE SLICE CUT TO 'Lib.compact zs'; ITS CELLS HOLD 'Lib.compact zs', THEN ZERO VALUES up to the old length; all else is as it was, but for the count of draws. IN THE WORDS OF slices.Sort's CONTRACT ('Holds', 'putRow'): so the everyday 'slices.Sort(xs); xs = slices.Compact(xs)' goes from the one contract to the other. It asks 'zs.length ≤ cap' (every slice's: the reslicing 's[:k]' looks at it). Length 0, nil: '.._empty'. (LAID: no walk: one application.) -/
theorem Tryz.slices_Compact_int (blk off cap : Nat) (zs : List Int) (w : World) (hH : Holds (Value.int .i64) w blk off zs.toArray) (hsz : zs.length ≤ 9223372036854775807) (hcap : zs.length ≤ cap) :
    Calls Tryz.prog 43 #[.slice (some ⟨blk, off, none⟩) zs.length cap] w fun e w' => e = .returned (.slice (some ⟨blk, off, none⟩) (Lib.compact zs).length cap) ∧ ∃ q, w' = putRow (Value.int .i64) (Sort.ahead w q) blk off (Lib.compact zs ++ List.replicate (zs.length - (Lib.compact zs).length) 0).toArray := Any.slices_Compact_int Tryz.laysNm220 blk off cap zs w hH hsz hcap
open Go.RowKit Go.Lib Go.Sort in
/-- The same at a slice of length 0, a nil one too: it comes back as it is. (LAID: no walk: one application.) -/
theorem Tryz.slices_Compact_int_empty (a : Option Addr) (cap : Nat) (w : World) :
    Calls Tryz.prog 43 #[.slice a 0 cap] w fun e w' => e = .returned (.slice a 0 cap) ∧ w' = w := Any.slices_Compact_int_empty Tryz.laysNm220 a cap w
def Tryz.laysNm237_ren : Go.Shelf.Ren := ⟨fun | 37 => 58 | n => n, fun | 3 => 3 | 4 => 4 | n => n, fun | n => n⟩
theorem Tryz.laysNm237 : Go.Proofs.Lays2.n37 Tryz.prog Tryz.laysNm237_ren := {
  mixed := by kernel_rfl
  f37 := Tryz.func58.trans (congrArg some (by kernel_rfl))
  t3 := Tryz.underlying3
  a3 := Tryz.isAgg3
  z3 := Tryz.sizeOf3
  v3 := Tryz.zeroValue3
  t4 := Tryz.underlying4
  a4 := Tryz.isAgg4
  z4 := Tryz.sizeOf4
  v4 := Tryz.zeroValue4 }
open Go.RowKit Go.Lib in
/-- cmp.isNaN[int]: 'x != x': false. (LAID: no walk: one application.) -/
theorem Tryz.cmp_isNaN_int2 (x : Int) (w : World) :
    Calls Tryz.prog 58 #[.int .i64 x] w fun e w' => e = .returned (.bool false) ∧ w' = w := Any.cmp_isNaN_int2 Tryz.laysNm237 x w
def Tryz.laysNm231_ren : Go.Shelf.Ren := ⟨fun | 31 => 89 | 37 => 58 | n => n, fun | 3 => 3 | 4 => 4 | n => n, fun | n => n⟩
theorem Tryz.laysNm231 : Go.Proofs.Lays2.n31 Tryz.prog Tryz.laysNm231_ren := {
  mixed := by kernel_rfl
  f31 := Tryz.func89.trans (congrArg some (by kernel_rfl))
  f37 := Tryz.func58.trans (congrArg some (by kernel_rfl))
  t3 := Tryz.underlying3
  a3 := Tryz.isAgg3
  z3 := Tryz.sizeOf3
  v3 := Tryz.zeroValue3
  t4 := Tryz.underlying4
  a4 := Tryz.isAgg4
  z4 := Tryz.sizeOf4
  v4 := Tryz.zeroValue4 }
open Go.RowKit Go.Lib in
/-- cmp.Less[int]: "Less reports whether x is less than y.": 'x < y'; the world is as it was. (LAID: no walk: one application.) -/
theorem Tryz.cmp_Less_int2 (x y : Int) (w : World) :
    Calls Tryz.prog 89 #[.int .i64 x, .int .i64 y] w fun e w' => e = .returned (.bool (decide (x < y))) ∧ w' = w := Any.cmp_Less_int2 Tryz.laysNm231 x y w
open Go.RowKit Go.Lib Go.Sort in
/-- slices.Compact at []int, of an argument: the slice cut to 'Lib.compact (elements)'; the n cells hold that, then zeros. (LAID: no walk: one application.) -/
theorem Tryz.slices_Compact_int_cells (b off n c : Nat) (zs : List Int) (w : World) (hz : n ≤ zs.length) (hbig : n ≤ 9223372036854775807) (hcap : n ≤ c) (hc : ∀ j, j < zs.length → w.cell? ⟨b, off + j, none⟩ = some (.int .i64 (zs.getD j 0))) (hf : ∀ j, j < n → w.frozen? ⟨b, off + j, none⟩ = false) :
    Calls Tryz.prog 43 #[.slice (some ⟨b, off, none⟩) n c] w fun e w' => e = .returned (.slice (some ⟨b, off, none⟩) (Lib.compact (zs.take n)).length c) ∧ ∃ q, w' = (w.drewN q).setCells b off ((Lib.compact (zs.take n) ++ List.replicate (n - (Lib.compact (zs.take n)).length) 0).map (Value.int .i64)) := Any.slices_Compact_int_cells Tryz.laysNm220 b off n c zs w hz hbig hcap hc hf
open Go.RowKit Go.Sort in
/-- .. and plain. (LAID: no walk: one application.) -/
theorem Tryz.slices_Sort_int_none (p : Option Addr) (cap : Nat) (w : World) :
    Calls Tryz.prog 42 #[.slice p 0 cap] w fun e w' => e = .returned (.tuple #[]) ∧ w' = w := Any.slices_Sort_int_none Tryz.lays189 p cap w
def Tryz.laysSlE041_f53_ren : Go.Shelf.Ren := ⟨fun | 41 => 53 | n => n, fun | 22 => 28 | 23 => 3 | 4 => 4 | n => n, fun | n => n⟩
theorem Tryz.laysSlE041_f53 : Go.Proofs.SlLaysE0.n41 Tryz.prog Tryz.laysSlE041_f53_ren := {
  mixed := by kernel_rfl
  f41 := ⟨Tryz.f53.name, by decide, Tryz.func53.trans (congrArg some (by kernel_rfl))⟩
  t4 := Tryz.underlying4
  a4 := Tryz.isAgg4
  z4 := Tryz.sizeOf4
  v4 := Tryz.zeroValue4
  t22 := Tryz.underlying28
  a22 := Tryz.isAgg28
  z22 := Tryz.sizeOf28
  v22 := Tryz.zeroValue28 }
open Go.RowKit Go.Lib in
/-- slices.Clone: "Clone returns a copy of the slice. The elements are copied using assignment, so this is a shallow clone. The result may have additional unused capacity. The result preserves the nilness of s.": OF A SLICE THAT IS NOT nil IT RETURNS A SLICE THAT IS NOT nil, OF THE SAME CELLS, IN MEMORY OF THE CALL's OWN ('ownsRow': the how-to's 6f); below the heap's size at the call all is as it was. (LAID AT THE INSTANCE 'slices.Clone[[]int,int]': no walk: one application.) -/
theorem Tryz.slices_Clone (i0 : TypeInfo) (z : Value) (size bytes : Nat) (hi : Tryz.prog.info? 3 = some i0) (hz0 : i0.zero = some z) (hz1 : i0.size = size) (hz2 : i0.bytes = bytes) (hzs : z.cells.size = size) (hsz : 0 < size) (z23 : ∀ w, (Go.sizeOf 3).run Tryz.prog w = .ok size w) (b off n c : Nat) (news : List Value) (w : World) (hl : news.length = n * size) (hn : n ≤ maxLen) (hbig : n * bytes ≤ 140737488355328) (hc : ∀ j u, news[j]? = some u → w.cell? ⟨b, off + j, none⟩ = some u) (h1 : ∀ u ∈ news, u.oneCell' = true) :
    Calls Tryz.prog 53 #[.slice (some ⟨b, off, none⟩) n c] w fun e w' => ∃ v', e = .returned v' ∧ w'.ownsRow w.heap.size 3 size v' n news ∧ v' ≠ .slice none 0 0 ∧ Below w.heap.size w w' := AnyE.slices_Clone Tryz.laysSlE041_f53 i0 z size bytes hi hz0 hz1 hz2 hzs hsz z23 b off n c news w hl hn hbig hc h1
open Go.RowKit Go.Lib in
/-- The same at nil: nil comes back; the world is as it was; nothing is asked of the element's type. (LAID AT THE INSTANCE 'slices.Clone[[]int,int]': no walk: one application.) -/
theorem Tryz.slices_Clone_nil (n c : Nat) (w : World) :
    Calls Tryz.prog 53 #[.slice none n c] w fun e w' => e = .returned (.slice none 0 0) ∧ w' = w := AnyE.slices_Clone_nil Tryz.laysSlE041_f53 n c w
end Go.Proofs
/- Distances: slices.Repeat, lengthsFrom, l5Distances, walked. Conditions: as each states. -/
namespace Go.Proofs.YtjfafhehpfjofaaGreat
open Go.RowKit
/-- All of the first k cells hold x. -/
def allIs (L : List Value) (x : Int) (k : Nat) : Prop := ∀ i, i < k → L[i]? = some (.int .i64 x)
theorem splice_is {L : List Value} {x : Int} {k m : Nat} (h : allIs L x k) (hk : k + m ≤ L.length) : allIs (splice L k (List.replicate m (.int .i64 x))) x (k + m) := by
  intro i hi
  unfold splice
  rcases Nat.lt_or_ge i k with h1 | h1
  · rw [List.getElem?_append_left (by simp; omega), List.getElem?_take, if_pos h1]; exact h i h1
  · rw [List.getElem?_append_right (by simp; omega), List.getElem?_append_left (by simp; omega), List.getElem?_replicate]
    simp; omega
theorem int_one : (Tryz.prog.info? 3).map (·.size) = some 1 := by kernel_rfl
theorem step_plain {P : Program} {ops : Array Oper} {o : Oper} {a : Act} {w : World} {K : Act → World → Prop} {Q : Exit → Act → World → Prop} {E : Prop} (hgd : o.guard = none) (h : Oper.wp P o a w K Q) : if Region.wanted o (yielded ops a.tmps) = true then Oper.wp P o a w K Q else E := by
  rw [if_pos (by simp [Region.wanted, hgd])]; exact h
theorem wp_copy_splice {P : Program} {o : Oper} {a : Act} {w : World} {K : Act → World → Prop} {Q : Exit → Act → World → Prop} (hgd : o.guard = none) (d s : Operand) (dT sT : TypeId)
    (ho : o.op = .call { callee := .builtin .copy, args := #[d, s], argTypes := #[dT, sT] }) (elem : TypeId) (hu : P.underlying dT = some (.slice elem)) (hsz : (P.info? elem).map (·.size) = some 1)
    (dp sp : Option Addr) (dLen dCap sLen sCap : Nat) (hd : a.eval d = .slice dp dLen dCap) (hs : a.eval s = .slice sp sLen sCap)
    (g off : Nat) (cur : List Value) (t : TypeId) (hg : w.heap[g]? = some (.cells cur.toArray t (0, 0))) (cs : List Value) (hn : cs.length = Nat.min sLen dLen)
    (hpos : 0 < cs.length → dp = some ⟨g, off, none⟩ ∧ ∃ ad, sp = some ad ∧ ∀ j v, cs[j]? = some v → w.cell? (ad.add j) = some v)
    (hfit : off + cs.length ≤ cur.length) (h1 : ∀ v ∈ cs, v.oneCell' = true) (B : Nat) (w0 : World) (hb : Below B w0 w) (hBg : B ≤ g)
    (h : ∀ w', Hid (w'.heap[g]? = some (.cells (splice cur off cs).toArray t (0, 0))) → Below B w0 w' → K (a.put o.dst (goInt cs.length)) w') : Oper.wp P o a w K Q := by
  have h2 := step_copy_splice (ops := #[]) (Q := Q) (E := False) hgd d s dT sT ho elem hu hsz dp sp dLen dCap sLen sCap hd hs g off cur t hg cs hn hpos hfit h1 B w0 hb hBg h
  rw [if_pos (by simp [Region.wanted, hgd])] at h2; exact h2
set_option maxHeartbeats 2000000 in
set_option maxRecDepth 100000 in
theorem repeat_any {B c n : Nat} {A : Option Addr} {x : Int} (w : World) (hA : Sees elInt w B A 1 [x]) (hn0 : 0 < n) (hn : n ≤ 1048576) :
    Calls Tryz.prog 50 #[.slice A 1 c, .int .i64 n] w fun e w' => ∃ v, e = .returned v ∧ Owns elInt w' w.heap.size 3 v (List.replicate n x) ∧ Below w.heap.size w w' := by
  obtain ⟨i0, hi, hz0, hz1, hz2⟩ := info_parts int_info
  have hmk := fun W => make_n (P := Tryz.prog) Tryz.underlying28 hi hz0 (n := n) (by rw [hz2]; omega) (by omega) W
  rw [hz1] at hmk
  clear hi hz0 hz1 hz2
  obtain ⟨b, o, rfl, hbB, hc⟩ := hA.at_ (k := 0) (by decide)
  have c0 := hc 0 x rfl 0 _ rfl
  simp only [elInt, Nat.zero_mul, Nat.add_zero] at c0
  have HM : Hid (∀ W, Calls Tryz.prog 78 #[.int .u64 1, .int .u64 n] W fun e w' => e = .returned (.tuple #[.int .u64 0, .int .u64 n]) ∧ w' = W) := fun W => by
    have h1 := Tryz.bits_Mul 1 n (by decide) (by omega) W
    rw [show 1 * n / 18446744073709551616 = 0 by omega, show 1 * n % 18446744073709551616 = n by omega] at h1
    exact h1
  have iu : IntKind.u64.wrap (n : Int) = (n : Int) := by rw [IntKind.wrap_u64]; omega
  have ii : IntKind.i64.wrap (n : Int) = (n : Int) := IntWalk.i64_in _ (by omega)
  have HB := hid hbB
  clear hA hc
  go_enter Tryz.func50, Tryz.ntmps50
  go_wp2_with fail
  refine (HM.out _).mono ?_
  rintro e w1 ⟨rfl, rfl⟩
  have i9 : ¬ ((9223372036854775807 : Int) < (n : Int)) := by omega
  obtain ⟨L0, hL0⟩ : ∃ L0 : List Value, L0 = (madeCells #[Value.int .i64 0] n).toList := ⟨_, rfl⟩
  have hsz0 : L0.length = n := by rw [hL0]; simpa using size_madeCells #[Value.int .i64 0] n
  have hb0 := bl_alloc (Below.refl w1.heap.size w1) (.cells (madeCells #[.int .i64 0] n) 3)
  have hg0 : (w1.alloc (.cells (madeCells #[.int .i64 0] n) 3)).heap[w1.heap.size]? = some (.cells L0.toArray 3 (0, 0)) := by
    have := Blk.new w1 3 (madeCells #[.int .i64 0] n)
    unfold Blk at this
    rw [hL0]; simpa using this
  have c1 := bl_cell hb0 c0
  have HG0 := hid hg0
  have hmin : Hid ([Value.int .i64 x].length = Nat.min 1 n) := by show 1 = min 1 n; omega
  have HL0 := hid hsz0
  have HB0 := hid hb0
  clear hb0 hg0 hsz0 hL0 c0
  go_wp2_with (first
    | (refine wpList_copy_splice rfl _ _ 28 28 rfl 3 Tryz.underlying28 int_one _ _ _ _ _ _ rfl rfl w1.heap.size 0 L0 3 HG0.out [.int .i64 x] hmin.out (fun _ => ⟨rfl, _, rfl, fun j v hj => by have : j = 0 := by { have := (List.getElem?_eq_some_iff.1 hj).1; simp at this; omega }; subst this; simp at hj; subst hj; simpa [Addr.add] using c1⟩) (by simp; rw [HL0.out]; omega) (by intro v hv; simp at hv; subst hv; rfl) w1.heap.size w1 HB0.out (Nat.le_refl _) ?_)
    | go_in)
  intro w2 hg2 hb2
  have hi1 : Hid (allIs (splice L0 0 [Value.int .i64 x]) x 1) := by
    have := splice_is (L := L0) (x := x) (k := 0) (m := 1) (fun i hi => by omega) (by rw [HL0.out]; omega)
    exact this
  have hl1 : Hid ((splice L0 0 [Value.int .i64 x]).length = n) := by unfold Hid; rw [length_splice _ _ _ (by rw [HL0.out]; simp; omega)]; exact HL0.out
  generalize splice L0 0 [Value.int .i64 x] = L1 at *
  clear HG0 HB0 HL0 c1 hmk iu ii HM
  go_wp2_with fail
  go_loopw [8] (fun i wr => ∃ (k : Nat) (L : List Value), (1 ≤ k ∧ k ≤ n) ∧ i = .int .i64 k ∧ Hid (wr.heap[w1.heap.size]? = some (.cells L.toArray 3 (0, 0))) ∧ Hid (L.length = n) ∧ Hid (allIs L x k) ∧ Below w1.heap.size w1 wr) (fun i _ => n - (intOf i).toNat)
  case atStart => exact ⟨1, L1, ⟨by decide, by omega⟩, rfl, hg2, hl1, hi1, hb2⟩
  case round =>
    clear hg2 hl1 hi1 hb2
    obtain ⟨k, L, ⟨hk0, hk⟩, rfl, hg, hl, his, hb⟩ := hrel
    by_cases hlt : k < n
    · obtain ⟨m, hm⟩ : ∃ m, m = min k (n - k) := ⟨_, rfl⟩
      have hm0 : 0 < m := by omega
      have hmk : m ≤ k := by omega
      have hmn : k + m ≤ n := by omega
      have hmin : Hid ((List.replicate m (Value.int .i64 x)).length = Nat.min k (n - k)) := by unfold Hid; rw [List.length_replicate]; exact hm
      have hb' := hb.drew
      have hgd : Hid (wr.drew.heap[w1.heap.size]? = some (.cells L.toArray 3 (0, 0))) := hg.out
      have hi2 : Hid (allIs (splice L k (List.replicate m (Value.int .i64 x))) x (k + m)) := splice_is his.out (by rw [hl.out]; exact hmn)
      have hl2 : Hid ((splice L k (List.replicate m (Value.int .i64 x))).length = n) := by unfold Hid; rw [length_splice _ _ _ (by rw [hl.out]; simp; exact hmn)]; exact hl.out
      have hsrc : Hid (∀ (W : World), W.heap[w1.heap.size]? = some (.cells L.toArray 3 (0, 0)) → ∀ (j : Nat) (v : Value), (List.replicate m (Value.int .i64 x))[j]? = some v → W.cell? ((⟨w1.heap.size, 0, none⟩ : Addr).add j) = some v) := fun W hW j v hj => by
        have hjm : j < m := by have := (List.getElem?_eq_some_iff.1 hj).1; simpa using this
        rw [List.getElem?_replicate] at hj
        rw [if_pos hjm] at hj
        injection hj with hj; subst hj
        have e : ((⟨w1.heap.size, 0, none⟩ : Addr).add j) = ⟨w1.heap.size, j, none⟩ := by unfold Addr.add; split; rename_i h0; rw [h0]; simp
        rw [e, Blk.cell (cur := L.toArray) (e := 3) hW]
        simpa using his.out j (by omega)
      have hlf : Hid (k + (List.replicate m (Value.int .i64 x)).length ≤ L.length) := by unfold Hid; rw [hl.out]; simp; exact hmn
      have hone : Hid (∀ v ∈ List.replicate m (Value.int .i64 x), v.oneCell' = true) := fun v hv => by rw [(List.mem_replicate.1 hv).2]; rfl
      have hlen : Hid ((List.replicate m (Value.int .i64 x)).length = m) := by unfold Hid; simp
      have ik : (k : Int) < (n : Int) := by omega
      have hdec : Hid ((if n = k then (some ⟨w1.heap.size, 0, none⟩ : Option Addr) else some ⟨w1.heap.size, k, none⟩) = some ⟨w1.heap.size, k, none⟩) := if_neg (by omega)
      have im : IntKind.i64.wrap ((k : Int) + (m : Int)) = ((k + m : Nat) : Int) := by rw [IntWalk.i64_in _ (by omega)]; omega
      clear hm his
      generalize List.replicate m (Value.int .i64 x) = C at *
      go_wp2_with fail
      go_region_law (refine step_plain rfl ?_; simp only [Act.put, List.getElem_toArray, List.getElem_cons_zero, List.getElem_cons_succ, List.setIfInBounds_toArray, List.set_cons_zero, List.set_cons_succ, hdec.out]; refine wp_copy_splice rfl (.tmp 41) (.tmp 44) 28 28 rfl 3 Tryz.underlying28 int_one _ _ _ _ _ _ rfl rfl w1.heap.size k L 3 hgd.out C hmin.out (fun _ => ⟨rfl, _, rfl, hsrc.out _ hgd.out⟩) hlf.out hone.out w1.heap.size w1 hb' (Nat.le_refl _) ?_; intro w4 hg4 hb4; rw [hlen.out]; simp only [Act.put, List.setIfInBounds_toArray, List.set_cons_zero, List.set_cons_succ])
      all_goals
        go_wp2
        refine ⟨?_, by simp [Act.put, intOf]; omega⟩
        first
          | exact ⟨k + m, _, ⟨by omega, by omega⟩, by go_num, hg4, hl2, hi2, hb4⟩
          | ((repeat apply Exists.intro); exact ⟨⟨k + m, _, ⟨by omega, by omega⟩, by go_num, hg4, hl2, hi2, hb4⟩, rfl⟩)
    · have hkn : k = n := by omega
      have HO : Hid (Owns elInt wr w1.heap.size 3 (.slice (some ⟨w1.heap.size, 0, none⟩) n n) (List.replicate n x)) := by
        refine Owns.of_blk (n := n) (cap := n) (cur := L.toArray) hg.out (Nat.le_refl _) (by simp) (Nat.le_refl _) (by show L.toArray.size = n * 1; simp; exact hl.out) (by unfold maxLen; omega) (fun j y hj hy i u hu => ?_)
        have hu' : [Value.int .i64 y][i]? = some u := hu
        match i, hu' with
        | 0, hu' =>
          simp at hu'; subst hu'
          rw [List.getElem?_replicate, if_pos hj] at hy
          injection hy with hy; subst hy
          have e : j * elInt.sz + 0 = j := by show j * 1 + 0 = j; omega
          rw [e]
          simpa using his.out j (by omega)
        | i + 1, hu' => simp at hu'
      clear hg hl his hkn
      go_wp2
      go_ret
      exact ⟨_, rfl, HO.out, hb⟩
end Go.Proofs.YtjfafhehpfjofaaGreat
/- Distances: lengthsFrom, l5Distances, walked. Conditions: the network's valid parts: ends are nodes, lengths are 1 to 5000, 2 to 8 nodes, at most 14 fibers. -/
namespace Go.Proofs.YtjfafhehpfjofaaGreat
open Go.RowKit
theorem goneF_nil (j : Nat) : goneF [] j = false := Bool.eq_false_iff.2 (fun h => by have h1 := hasB_iff.1 h; cases h1)
/-- What these walks ask of fibers. -/
def lens5 (fs : List Fib) : Prop := ∀ i, i < fs.length → 1 ≤ (fibD fs i).len ∧ (fibD fs i).len ≤ 5000
theorem lens5_pos {fs : List Fib} (h : lens5 fs) : lensB fs := fun i hi => (h i hi).1
theorem goodB_lens5 {xs : List ByteArray} {fs : List Fib} (h : goodB xs fs = true) : lens5 fs := fun i hi => by
  have h1 := goodB_fibB h (List.getElem_mem hi)
  have e : fibD fs i = fs[i] := getD_of (List.getElem?_eq_getElem hi)
  rw [e]
  unfold fibB at h1; simp at h1; omega
theorem dstTo_bd {q : Nat → Bool} {fs : List Fib} {D : List Int} {M : Int} (hl : lens5 fs) (hM : 0 ≤ M) (hD : ∀ v, valL D v ≤ M) : ∀ j, j ≤ 2 * fs.length → ∀ v, valL (dstTo q fs D j) v ≤ M + 5000 * (j : Int) := by
  intro j
  induction j with
  | zero => intro _ v; have := hD v; show valL D v ≤ _; omega
  | succ j ih =>
    intro hj v
    have i1 := ih (by omega)
    have h5 := (hl (j / 2) (by omega)).2
    rw [dstTo_succ]
    split
    · have := i1 v; omega
    · unfold relax
      split
      · unfold valL
        rw [List.getD_eq_getElem?_getD, List.getElem?_set]
        have a1 := i1 (arcU fs j)
        have a2 := i1 v
        unfold valL at a1 a2
        rw [List.getD_eq_getElem?_getD] at a1 a2
        have a3 : arcLn fs j ≤ 5000 := h5
        split
        · split
          · simp only [Option.getD_some]
            show valL _ _ + _ ≤ _
            unfold valL
            rw [List.getD_eq_getElem?_getD]
            omega
          · simp only [Option.getD_none]; omega
        · omega
      · have := i1 v; omega
theorem dstRnd_bd {q : Nat → Bool} {fs : List Fib} {n s : Nat} (hl : lens5 fs) (k : Nat) : ∀ v, valL (dstRnd q fs n s k) v ≤ 10000 * ((fs.length : Int) * (k : Int)) := by
  induction k with
  | zero =>
    intro v
    show valL (dst0 n s) v ≤ _
    unfold dst0 valL
    rw [List.getD_eq_getElem?_getD, List.getElem?_set]
    split
    · split <;> simp
    · rw [List.getElem?_replicate]
      split <;> simp
  | succ k ih =>
    intro v
    have hnn : (0 : Int) ≤ (fs.length : Int) * (k : Int) := Int.mul_nonneg (by omega) (by omega)
    have h1 := dstTo_bd (q := q) hl (M := 10000 * ((fs.length : Int) * (k : Int))) (by omega) ih (2 * fs.length) (Nat.le_refl _) v
    show valL (dstTo q fs (dstRnd q fs n s k) (2 * fs.length)) v ≤ _
    have e : (fs.length : Int) * ((k + 1 : Nat) : Int) = (fs.length : Int) * (k : Int) + (fs.length : Int) := by rw [Int.natCast_add, Int.mul_add]; simp
    rw [e]
    omega
section
variable {n c m d : Nat} {A A' : Option Addr} {xs : List ByteArray} {fs : List Fib}
set_option maxHeartbeats 8000000 in
set_option maxRecDepth 100000 in
theorem lengthsFrom_any (s : Nat) (w : World) (h : NetIs w A n c A' m d xs fs) (he : endsB n fs) (hl5 : lens5 fs) (hs : s < n) (hn8 : n ≤ 8) (hm14 : m ≤ 14) :
    Calls Tryz.prog 26 #[.agg #[.slice A n c, .slice A' m d], .int .i64 (s : Int)] w fun e w' => ∃ v, e = .returned v ∧ Owns elInt w' w.heap.size 3 v (distL (goneF []) fs n s) ∧ Below w.heap.size w w' := by
  have hlf := hid h.flen
  have HE := hid he
  have HL5 := hid hl5
  have HLB := hid (lens5_pos hl5)
  have HF := hid h
  have hS0 := (Led.nil w).blk_ w.heap.size rfl 27 #[.slice A n c, .slice A' m d]
  have q0 := hS0.cell 0 0 rfl rfl
  have hS := hS0.blk_ (w.heap.size + 1) (by simp) 3 #[.int .i64 (-1)]
  clear he h hl5
  go_enter Tryz.func26, Tryz.ntmps26
  go_wp2_with fail
  refine (repeat_any (x := -1) _ (sees_new elInt (w.alloc (.cells #[.slice A n c, .slice A' m d] 27)) (-1) 3 (w.heap.size + 1) (by simp)) (by omega) (by omega)).mono ?_
  rintro e w1 ⟨v, rfl, ho, hb⟩
  obtain ⟨g, cV, rfl⟩ := ho.splitg (by simp) (show 0 < n by omega)
  replace hS := (hS.owns_ (b0 := w.heap.size) hb (ho) (Nat.le_refl _) hS.bl.size)
  clear ho hb q0 hS0
  have is : (s : Int) < (n : Int) := by omega
  have v0 := hS.int_at 0 rfl (j := s) (by simp; omega)
  have y0 := hS.int_free 0 rfl s
  have hS1 := hS.int_set 0 rfl (j := s) (by simp; omega) 0
  have hz : (List.replicate n (-1 : Int)).set s 0 = dstRnd (goneF []) fs n s 0 := rfl
  rw [hz] at hS1
  have HS : Hid (∀ W, W = w1.setCell ⟨g, s, none⟩ (.int .i64 0) → Led w W [tOwns elInt w.heap.size 3 (.slice (some ⟨g, 0, none⟩) n cV) (dstRnd (goneF []) fs n s 0), tBlk w.heap.size 27 #[.slice A n c, .slice A' m d]]) := fun W hW => by
    subst hW
    have h1 := hS1.all 0 _ rfl
    have h2 := hS1.all 2 _ rfl
    refine ⟨hS1.bl, fun i t ht => ?_, fun i j a b hij ha hb k k1 k2 => ?_⟩
    · match i, ht with
      | 0, ht => simp at ht; subst ht; exact h1
      | 1, ht => simp at ht; subst ht; exact h2
    · match i, j, ha, hb with
      | 0, 0, _, _ => exact hij rfl
      | 1, 1, _, _ => exact hij rfl
      | 0, 1, ha, hb => exact hS1.apart 0 2 a b (by omega) (by simpa using ha) (by simpa using hb) k k1 k2
      | 1, 0, ha, hb => exact hS1.apart 2 0 a b (by omega) (by simpa using ha) (by simpa using hb) k k1 k2
  clear hS hS1 hz
  go_wp2_with fail
  have HS2 := hid (HS.out _ rfl)
  clear HS v0 y0
  generalize w1.setCell ⟨g, s, none⟩ (.int .i64 0) = W1 at *
  go_loopg [6] (n + 2) (fun gk b wr => ∃ (r : Nat) (more : Bool), b = .bool more ∧ r + gk = n + 2 ∧ Hid (more = true → r ≤ n) ∧ Hid (more = false → dstRnd (goneF []) fs n s r = distL (goneF []) fs n s) ∧ Hid (Led w wr [tOwns elInt w.heap.size 3 (.slice (some ⟨g, 0, none⟩) n cV) (dstRnd (goneF []) fs n s r), tBlk w.heap.size 27 #[.slice A n c, .slice A' m d]]))
  case atStart => exact ⟨0, true, rfl, by omega, (show true = true → 0 ≤ n from fun _ => Nat.zero_le _), (show true = false → _ from fun h => Bool.noConfusion h), HS2⟩
  case round =>
    clear HS2
    obtain ⟨r, more, rfl, hrg, hm1, hm2, HS⟩ := hrel
    cases more
    case false =>
      have HR := hid (hm2.out rfl)
      clear hm1 hm2
      go_wp2
      go_ret
      exact ⟨_, rfl, by rw [← HR.out]; exact HS.out.own 0 rfl, HS.out.bl⟩
    case true =>
      have hrn := hm1.out rfl
      clear hm1 hm2
      have q1 := HS.out.cell 1 1 rfl rfl
      obtain ⟨X, hX⟩ : ∃ X, X = dstRnd (goneF []) fs n s r := ⟨_, rfl⟩
      have hXl : Hid (X.length = n) := by rw [hX]; exact dstRnd_len r
      have HN : Hid (dstRnd (goneF []) fs n s (r + 1) = dstPass (goneF []) fs X) := by rw [hX]; rfl
      have HXB : Hid (∀ v, valL X v ≤ 2000000) := fun v => by
        rw [hX]
        have h1 := dstRnd_bd (q := goneF []) (n := n) (s := s) HL5.out r v
        have h2 : (fs.length : Int) * (r : Int) ≤ 14 * 8 := Int.mul_le_mul (by rw [hlf.out]; omega) (by omega) (by omega) (by omega)
        omega
      rw [← hX] at HS
      have HX := hid hX
      clear hX
      have HS1 : Hid (Led w wr [tOwns elInt w.heap.size 3 (.slice (some ⟨g, 0, none⟩) n cV) (dstTo (goneF []) fs X (2 * 0)), tBlk w.heap.size 27 #[.slice A n c, .slice A' m d]]) := HS
      clear HS
      go_wp2_with fail
      clear q1
      go_loopw [6, 24] (fun b i wr => ∃ j : Nat, j ≤ m ∧ i = .int .i64 j ∧ b = .bool (dchB (goneF []) fs X (2 * j)) ∧ Hid (Led w wr [tOwns elInt w.heap.size 3 (.slice (some ⟨g, 0, none⟩) n cV) (dstTo (goneF []) fs X (2 * j)), tBlk w.heap.size 27 #[.slice A n c, .slice A' m d]])) (fun _ i _ => m - (intOf i).toNat)
      case atStart => exact ⟨0, Nat.zero_le _, rfl, rfl, HS1⟩
      case round =>
        clear HS1
        obtain ⟨j, hj, rfl, rfl, HS⟩ := hrel
        obtain ⟨ch0, hch0⟩ : ∃ ch, ch = dchB (goneF []) fs X (2 * j) := ⟨_, rfl⟩
        rw [← hch0]
        have HCH0 := hid hch0
        clear hch0
        by_cases hlt2 : j < m
        · obtain ⟨fb, fo, rfl, _, hc⟩ := HF.out.fibs.at_ hlt2
          obtain ⟨f, hfj⟩ := get_of (k := j) hlf.out hlt2
          have f0 := bl_cell HS.out.bl (hc j f hfj 0 _ rfl)
          have f1 := bl_cell HS.out.bl (hc j f hfj 1 _ rfl)
          have f2 := bl_cell HS.out.bl (hc j f hfj 2 _ rfl)
          have f3 := bl_cell HS.out.bl (hc j f hfj 3 _ rfl)
          simp only [elFib, Nat.add_zero] at f0 f1 f2 f3
          have hfd : fibD fs j = f := getD_of hfj
          have hends := HE.out j (by rw [hlf.out]; exact hlt2)
          have hlen5 := HL5.out j (by rw [hlf.out]; exact hlt2)
          rw [hfd] at hends hlen5
          obtain ⟨a, ha⟩ : ∃ a : Nat, f.a = (a : Int) := ⟨f.a.toNat, by omega⟩
          obtain ⟨z, hb⟩ : ∃ z : Nat, f.b = (z : Int) := ⟨f.b.toNat, by omega⟩
          obtain ⟨ln, hln⟩ : ∃ ln : Int, f.len = ln := ⟨_, rfl⟩
          rw [ha, hb] at hends
          rw [ha] at f0
          rw [hb] at f1
          rw [hln] at f2 hlen5
          have HA0 : Hid (arcU fs (2 * j + 0) = a ∧ arcV fs (2 * j + 0) = z ∧ arcLn fs (2 * j + 0) = ln) := by
            unfold Hid arcU arcV arcLn
            rw [show (2 * j + 0) % 2 = 0 by omega, show (2 * j + 0) / 2 = j by omega, hfd, ha, hb, hln]; simp
          have HA1 : Hid (arcU fs (2 * j + 1) = z ∧ arcV fs (2 * j + 1) = a ∧ arcLn fs (2 * j + 1) = ln) := by
            unfold Hid arcU arcV arcLn
            rw [show (2 * j + 1) % 2 = 1 by omega, show (2 * j + 1) / 2 = j by omega, hfd, ha, hb, hln]; simp
          have iaz : a ≠ z := by omega
          have ian : a < n := by omega
          have izn : z < n := by omega
          have hS1 := (HS.out.blk_ wr.heap.size rfl 64 #[.int .i64 (a : Int), .int .i64 (z : Int), .int .i64 ln, .int .i64 f.risk]).blk_ (wr.heap.size + 1) (by simp) 83 #[.int .i64 (a : Int), .int .i64 (z : Int), .int .i64 (z : Int), .int .i64 (a : Int)]
          have HSA := hid hS1
          clear hc hfj hfd ha hb hln hends hS1 HS
          go_wp2_with fail
          clear f0 f1 f2 f3
          have HX0 : Hid (ch0 = dchB (goneF []) fs X (2 * j + 0)) := HCH0.out
          clear HCH0
          obtain ⟨B0, hB0⟩ : ∃ B0, wr.heap.size = B0 := ⟨_, rfl⟩
          rw [hB0] at HSA ⊢
          have HSA0 : Hid (∃ W, W = ((wr.alloc (.cells #[.int .i64 (a : Int), .int .i64 (z : Int), .int .i64 ln, .int .i64 f.risk] 64)).alloc (.cells #[.int .i64 (a : Int), .int .i64 (z : Int), .int .i64 (z : Int), .int .i64 (a : Int)] 83))) := ⟨_, rfl⟩
          clear HSA0 hB0
          go_loopw [6, 40] (fun b i wr => ∃ t : Nat, t ≤ 2 ∧ i = .int .i64 t ∧ b = .bool (dchB (goneF []) fs X (2 * j + t)) ∧ Hid (Led w wr [tBlk (B0 + 1) 83 #[.int .i64 (a : Int), .int .i64 (z : Int), .int .i64 (z : Int), .int .i64 (a : Int)], tBlk B0 64 #[.int .i64 (a : Int), .int .i64 (z : Int), .int .i64 ln, .int .i64 f.risk], tOwns elInt w.heap.size 3 (.slice (some ⟨g, 0, none⟩) n cV) (dstTo (goneF []) fs X (2 * j + t)), tBlk w.heap.size 27 #[.slice A n c, .slice (some ⟨fb, fo, none⟩) m d]])) (fun _ i _ => 2 - (intOf i).toNat)
          case atStart => exact ⟨0, by decide, rfl, by rw [HX0.out], HSA⟩
          case round =>
            clear HSA HX0
            obtain ⟨t, ht, rfl, rfl, HS⟩ := hrel
            obtain ⟨ch, hch⟩ : ∃ ch, ch = dchB (goneF []) fs X (2 * j + t) := ⟨_, rfl⟩
            rw [← hch]
            have HCH := hid hch
            clear hch
            by_cases hlt3 : t < 2
            · obtain ⟨u, v, c0, c1, hA, hun, hvn, huv⟩ : ∃ u v : Nat, wr.cell? ⟨B0 + 1, t * 2, none⟩ = some (.int .i64 (u : Int)) ∧ wr.cell? ⟨B0 + 1, t * 2 + 1, none⟩ = some (.int .i64 (v : Int)) ∧ (arcU fs (2 * j + t) = u ∧ arcV fs (2 * j + t) = v ∧ arcLn fs (2 * j + t) = ln) ∧ u < n ∧ v < n ∧ u ≠ v := by
                rcases (show t = 0 ∨ t = 1 by omega) with rfl | rfl
                · exact ⟨a, z, HS.out.cell 0 0 rfl rfl, HS.out.cell 0 1 rfl rfl, HA0.out, ian, izn, iaz⟩
                · exact ⟨z, a, HS.out.cell 0 2 rfl rfl, HS.out.cell 0 3 rfl rfl, HA1.out, izn, ian, fun e => iaz e.symm⟩
              have hYl : Hid ((dstTo (goneF []) fs X (2 * j + t)).length = n) := (dstTo_len X _).trans hXl.out
              have HYB : Hid (∀ v, valL (dstTo (goneF []) fs X (2 * j + t)) v ≤ 2200000) := fun v => by
                have h1 := dstTo_bd (q := goneF []) HL5.out (by decide) HXB.out (2 * j + t) (by rw [hlf.out]; omega) v
                omega
              have HNX : Hid (dstTo (goneF []) fs X (2 * j + (t + 1)) = relax u v ln (dstTo (goneF []) fs X (2 * j + t))) := by
                unfold Hid
                rw [show 2 * j + (t + 1) = (2 * j + t) + 1 by omega, dstTo_no (goneF_nil _), hA.1, hA.2.1, hA.2.2]
              have HCX : Hid (dchB (goneF []) fs X (2 * j + (t + 1)) = (ch || canB u v ln (dstTo (goneF []) fs X (2 * j + t)))) := by
                show dchB (goneF []) fs X (2 * j + t + 1) = _
                show (dchB (goneF []) fs X (2 * j + t) || (!(goneF [] ((2 * j + t) / 2)) && canB (arcU fs (2 * j + t)) (arcV fs (2 * j + t)) (arcLn fs (2 * j + t)) (dstTo (goneF []) fs X (2 * j + t)))) = _
                rw [← HCH.out, goneF_nil, hA.1, hA.2.1, hA.2.2]; rfl
              clear hA HCH
              generalize dstTo (goneF []) fs X (2 * j + t) = Y at *
              have hSe := HS.out.blk_ wr.heap.size rfl 83 #[.int .i64 (u : Int), .int .i64 (v : Int)]
              have e0 := hSe.cell 0 0 rfl rfl
              have v0 := hSe.int_at 3 rfl (j := u) (by rw [hYl.out]; omega)
              have iu : (u : Int) < (n : Int) := by omega
              have iv : (v : Int) < (n : Int) := by omega
              have it : (t : Int) < 2 := by omega
              have hyb := HYB.out u
              clear HS
              go_wp2_with fail
              clear c0 c1 e0 v0
              generalize wr.alloc (.cells #[.int .i64 (u : Int), .int .i64 (v : Int)] 83) = W at *
              have E1 : ∀ w', Cls W w' → w'.cell? ⟨wr.heap.size, 1, none⟩ = some (.int .i64 (v : Int)) := fun _ h => h.cell (hSe.cell 0 1 rfl rfl)
              have EL : ∀ w', Cls W w' → w'.cell? ⟨B0, 2, none⟩ = some (.int .i64 ln) := fun _ h => h.cell (hSe.cell 2 2 rfl rfl)
              have VV : ∀ w', Cls W w' → w'.cell? ⟨g, v, none⟩ = some (.int .i64 (valL Y v)) := fun _ h => h.cell (hSe.int_at 3 rfl (j := v) (by rw [hYl.out]; omega))
              by_cases g1 : (0 : Int) ≤ valL Y u
              · have g1d : decide ((0 : Int) ≤ valL Y u) = true := decide_eq_true g1
                have iw : IntKind.i64.wrap (valL Y u + ln) = valL Y u + ln := IntWalk.i64_in _ (by omega)
                by_cases g2 : valL Y v < 0
                · have g2d : decide (valL Y v < 0) = true := decide_eq_true g2
                  have HC : Hid (canB u v ln Y = true) := canB_iff.2 ⟨g1, .inl g2⟩
                  have HR : Hid (relax u v ln Y = Y.set v (valL Y u + ln)) := by unfold Hid relax; rw [HC.out]; rfl
                  have HQ : Hid (dchB (goneF []) fs X (2 * j + (t + 1)) = true) := by unfold Hid; rw [HCX.out, HC.out]; simp
                  refine region_cls (by kernel_rfl) (by kernel_rfl) ?_
                  repeat (first
                    | ((with_reducible refine quiet_pos ?_ (fun K hK => ?_))
                       · rfl
                       apply Exists.intro
                       refine ⟨fun w' hw' => ?_, ?_⟩
                       · go_simp
                         with_reducible rfl
                       simp only [Act.put, List.setIfInBounds_toArray, List.set_cons_zero, List.set_cons_succ]
                       refine hK _ ?_; clear hK K)
                    | ((with_reducible refine quiet_neg ?_ (fun K hK => ?_))
                       · rfl
                       simp only [Act.put, List.setIfInBounds_toArray, List.set_cons_zero, List.set_cons_succ]
                       refine hK _ ?_; clear hK K))
                  with_reducible refine wpQuiet_nil ?_
                  intro wz hwz'
                  have hS2 := hSe.step hwz'
                  clear hSe E1 EL VV hwz'
                  have e1 := hS2.cell 0 1 rfl rfl
                  have l2 := hS2.cell 2 2 rfl rfl
                  have vv := hS2.int_at 3 rfl (j := v) (by rw [hYl.out]; omega)
                  have yv := hS2.int_free 3 rfl v
                  have HS4 := hid ((hS2.int_set 3 rfl (j := v) (by rw [hYl.out]; omega) (valL Y u + ln)).drop 1)
                  clear hS2
                  go_wp2
                  refine ⟨?_, by simp [intOf]; omega⟩
                  first
                    | exact ⟨t + 1, by omega, by go_num, by rw [HQ.out], by rw [HNX.out, HR.out]; exact HS4⟩
                    | ((repeat apply Exists.intro); exact ⟨⟨t + 1, by omega, by go_num, by rw [HQ.out], by rw [HNX.out, HR.out]; exact HS4⟩, rfl⟩)
                · have g2d : decide (valL Y v < 0) = false := decide_eq_false g2
                  by_cases g3 : valL Y u + ln < valL Y v
                  · have g3d : decide (valL Y u + ln < valL Y v) = true := decide_eq_true g3
                    have HC : Hid (canB u v ln Y = true) := canB_iff.2 ⟨g1, .inr g3⟩
                    have HR : Hid (relax u v ln Y = Y.set v (valL Y u + ln)) := by unfold Hid relax; rw [HC.out]; rfl
                    have HQ : Hid (dchB (goneF []) fs X (2 * j + (t + 1)) = true) := by unfold Hid; rw [HCX.out, HC.out]; simp
                    refine region_cls (by kernel_rfl) (by kernel_rfl) ?_
                    repeat (first
                      | ((with_reducible refine quiet_pos ?_ (fun K hK => ?_))
                         · rfl
                         apply Exists.intro
                         refine ⟨fun w' hw' => ?_, ?_⟩
                         · go_simp
                           with_reducible rfl
                         simp only [Act.put, List.setIfInBounds_toArray, List.set_cons_zero, List.set_cons_succ]
                         refine hK _ ?_; clear hK K)
                      | ((with_reducible refine quiet_neg ?_ (fun K hK => ?_))
                         · rfl
                         simp only [Act.put, List.setIfInBounds_toArray, List.set_cons_zero, List.set_cons_succ]
                         refine hK _ ?_; clear hK K))
                    with_reducible refine wpQuiet_nil ?_
                    intro wz hwz'
                    have hS2 := hSe.step hwz'
                    clear hSe E1 EL VV hwz'
                    have e1 := hS2.cell 0 1 rfl rfl
                    have l2 := hS2.cell 2 2 rfl rfl
                    have vv := hS2.int_at 3 rfl (j := v) (by rw [hYl.out]; omega)
                    have yv := hS2.int_free 3 rfl v
                    have HS4 := hid ((hS2.int_set 3 rfl (j := v) (by rw [hYl.out]; omega) (valL Y u + ln)).drop 1)
                    clear hS2
                    go_wp2
                    refine ⟨?_, by simp [intOf]; omega⟩
                    first
                      | exact ⟨t + 1, by omega, by go_num, by rw [HQ.out], by rw [HNX.out, HR.out]; exact HS4⟩
                      | ((repeat apply Exists.intro); exact ⟨⟨t + 1, by omega, by go_num, by rw [HQ.out], by rw [HNX.out, HR.out]; exact HS4⟩, rfl⟩)
                  · have g3d : decide (valL Y u + ln < valL Y v) = false := decide_eq_false g3
                    have HC : Hid (canB u v ln Y = false) := Bool.eq_false_iff.2 (fun h => by have h1 := canB_iff.1 h; omega)
                    have HR : Hid (relax u v ln Y = Y) := by unfold Hid relax; rw [HC.out]; rfl
                    have HQ : Hid (dchB (goneF []) fs X (2 * j + (t + 1)) = ch) := by unfold Hid; rw [HCX.out, HC.out]; simp
                    refine region_cls (by kernel_rfl) (by kernel_rfl) ?_
                    repeat (first
                      | ((with_reducible refine quiet_pos ?_ (fun K hK => ?_))
                         · rfl
                         apply Exists.intro
                         refine ⟨fun w' hw' => ?_, ?_⟩
                         · go_simp
                           with_reducible rfl
                         simp only [Act.put, List.setIfInBounds_toArray, List.set_cons_zero, List.set_cons_succ]
                         refine hK _ ?_; clear hK K)
                      | ((with_reducible refine quiet_neg ?_ (fun K hK => ?_))
                         · rfl
                         simp only [Act.put, List.setIfInBounds_toArray, List.set_cons_zero, List.set_cons_succ]
                         refine hK _ ?_; clear hK K))
                    with_reducible refine wpQuiet_nil ?_
                    intro wz hwz'
                    have HS4 := hid ((hSe.step hwz').drop 1)
                    clear hSe E1 EL VV hwz'
                    go_wp2
                    refine ⟨?_, by simp [intOf]; omega⟩
                    first
                      | exact ⟨t + 1, by omega, by go_num, by rw [HQ.out], by rw [HNX.out, HR.out]; exact HS4⟩
                      | ((repeat apply Exists.intro); exact ⟨⟨t + 1, by omega, by go_num, by rw [HQ.out], by rw [HNX.out, HR.out]; exact HS4⟩, rfl⟩)
              · have g1d : decide ((0 : Int) ≤ valL Y u) = false := decide_eq_false g1
                have HC : Hid (canB u v ln Y = false) := Bool.eq_false_iff.2 (fun h => by have h1 := canB_iff.1 h; omega)
                have HR : Hid (relax u v ln Y = Y) := by unfold Hid relax; rw [HC.out]; rfl
                have HQ : Hid (dchB (goneF []) fs X (2 * j + (t + 1)) = ch) := by unfold Hid; rw [HCX.out, HC.out]; simp
                refine region_cls (by kernel_rfl) (by kernel_rfl) ?_
                repeat (first
                  | ((with_reducible refine quiet_pos ?_ (fun K hK => ?_))
                     · rfl
                     apply Exists.intro
                     refine ⟨fun w' hw' => ?_, ?_⟩
                     · go_simp
                       with_reducible rfl
                     simp only [Act.put, List.setIfInBounds_toArray, List.set_cons_zero, List.set_cons_succ]
                     refine hK _ ?_; clear hK K)
                  | ((with_reducible refine quiet_neg ?_ (fun K hK => ?_))
                     · rfl
                     simp only [Act.put, List.setIfInBounds_toArray, List.set_cons_zero, List.set_cons_succ]
                     refine hK _ ?_; clear hK K))
                with_reducible refine wpQuiet_nil ?_
                intro wz hwz'
                have HS4 := hid ((hSe.step hwz').drop 1)
                clear hSe E1 EL VV hwz'
                go_wp2
                refine ⟨?_, by simp [intOf]; omega⟩
                first
                  | exact ⟨t + 1, by omega, by go_num, by rw [HQ.out], by rw [HNX.out, HR.out]; exact HS4⟩
                  | ((repeat apply Exists.intro); exact ⟨⟨t + 1, by omega, by go_num, by rw [HQ.out], by rw [HNX.out, HR.out]; exact HS4⟩, rfl⟩)
            · have ht2 : t = 2 := by omega
              have HQ : Hid (dchB (goneF []) fs X (2 * (j + 1)) = ch) := by rw [HCH.out, ht2]; rfl
              have HS4 := hid (HS.out.drop 2)
              rw [show 2 * j + t = 2 * (j + 1) by omega] at HS4
              clear ht2 HS HCH
              go_wp2
              refine ⟨?_, by simp [intOf]; omega⟩
              first
                | exact ⟨j + 1, by omega, by go_num, by rw [HQ.out], HS4⟩
                | ((repeat apply Exists.intro); exact ⟨⟨j + 1, by omega, by go_num, by rw [HQ.out], HS4⟩, rfl⟩)
        · have hjm : 2 * j = 2 * fs.length := by have := hlf.out; omega
          have HR : Hid (dstRnd (goneF []) fs n s (r + 1) = dstTo (goneF []) fs X (2 * j)) := by unfold Hid; rw [HN.out, hjm]; rfl
          have HG1 : Hid (ch0 = true → r + 1 ≤ n) := fun hc => by
            apply Classical.byContradiction
            intro hlt
            have h1 := dstRnd_late (q := goneF []) HE.out HLB.out hs (show n ≤ r by omega)
            rw [HN.out, ← HX.out] at h1
            exact dchB_yes hXl.out HE.out HLB.out (Nat.le_of_eq hjm) (by rw [← HCH0.out]; exact hc) h1
          have HG2 : Hid (ch0 = false → dstRnd (goneF []) fs n s (r + 1) = distL (goneF []) fs n s) := fun hc => by
            have h1 := dchB_no (q := goneF []) (fs := fs) (D := X) (j := 2 * j) (by rw [← HCH0.out]; exact hc)
            have h2 : dstRnd (goneF []) fs n s (r + 1) = dstRnd (goneF []) fs n s r := by rw [HR.out, h1, HX.out]
            rw [h2]
            exact dstRnd_done HE.out HLB.out hs h2
          clear hjm
          go_wp2_with fail
          go_roundg (gk - 1)
          case measure => omega
          case rel => exact ⟨r + 1, ch0, rfl, by omega, HG1, HG2, by rw [HR.out]; exact HS⟩

end
end Go.Proofs.YtjfafhehpfjofaaGreat
