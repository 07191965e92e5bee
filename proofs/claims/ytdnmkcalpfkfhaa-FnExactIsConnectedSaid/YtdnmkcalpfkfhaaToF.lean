/- toFiber and toFiberS, walked: a new row that holds the same fibers. Conditions: at most 1048576 of them. -/
import Derived.Test.YtdnmkcalpfkfhaaRows
import Derived.Test.YtdnmkcalpfkfhaaFib
namespace Go.Proofs.Ytdnmkcalpfkfhaa
open Go.RowKit
set_option maxRecDepth 100000 in
theorem toFiber_any (f : Fib) (w : World) :
    Calls Try.prog 104 #[fibV f] w fun e w' => e = .returned (fibV f) ∧ Below w.heap.size w w' := by
  obtain ⟨a, b, l, r⟩ := f
  unfold fibV
  go_enter Try.func104, Try.ntmps104
  go_wp2
  refine bodyPost_ret (v := .agg #[.int .i64 a, .int .i64 b, .int .i64 l, .int .i64 r]) (by simp [results, Try.results104, go_sem]) rfl ⟨rfl, ?_⟩
  repeat (first | exact Below.refl _ _ | apply Below.drew | apply bl_alloc)
theorem fib_info : (Try.prog.info? 102).map (fun i => (i.zero, i.size, i.bytes)) = some (some (.agg #[.int .i64 0, .int .i64 0, .int .i64 0, .int .i64 0]), 4, 32) := by kernel_rfl
set_option maxHeartbeats 1000000 in
set_option maxRecDepth 100000 in
theorem toFiberS_any {B n c : Nat} {A : Option Addr} {xs : List Fib} (w : World) (hA : Sees elFib w B A n xs) (hn : n ≤ 1048576) :
    Calls Try.prog 60 #[.slice A n c] w fun e w' => ∃ v, e = .returned v ∧ Owns elFib w' w.heap.size 102 v xs ∧ Below w.heap.size w w' := by
  obtain ⟨i0, hi, hz0, hz1, hz2⟩ := info_parts fib_info
  have hmk := fun W => make_n (P := Try.prog) Try.underlying33 hi hz0 (n := n) (by rw [hz2]; omega) (by omega) W
  rw [hz1] at hmk
  clear hi hz0 hz1 hz2
  go_enter Try.func60, Try.ntmps60
  go_wp2
  have hb0 := bl_alloc (Below.refl w.heap.size w) (.cells (madeCells #[.int .i64 0, .int .i64 0, .int .i64 0, .int .i64 0] (n * 4)) 102)
  have hk0 : Hid (Blk (w.alloc (.cells (madeCells #[.int .i64 0, .int .i64 0, .int .i64 0, .int .i64 0] (n * 4)) 102)) w.heap.size 102 (madeCells #[.int .i64 0, .int .i64 0, .int .i64 0, .int .i64 0] (n * 4))) := Blk.new _ _ _
  have hs0 : Hid ((madeCells #[.int .i64 0, .int .i64 0, .int .i64 0, .int .i64 0] (n * 4)).size = n * 4) := size_madeCells _ _
  clear hmk
  go_loopw [4] (fun i wr => ∃ (k : Nat) (cur : Array Value), k ≤ n ∧ i = .int .i64 k ∧ Hid (Blk wr w.heap.size 102 cur) ∧ Hid (cur.size = n * 4) ∧ Hid (Filled elFib cur xs k) ∧ Below w.heap.size w wr) (fun i _ => n - (intOf i).toNat)
  case atStart => exact ⟨0, _, Nat.zero_le _, rfl, hk0, hs0, Filled.zero _ _ _, hb0⟩
  case round =>
    clear hb0 hk0 hs0
    obtain ⟨k, cur, hk, rfl, hblk, hsz, hfill, hb⟩ := hrel
    by_cases hlt : k < n
    · obtain ⟨b, o, rfl, _, hc⟩ := hA.at_ hlt
      obtain ⟨f, hfk⟩ : ∃ x, xs[k]? = some x := ⟨xs[k]'(by rw [hA.len]; exact hlt), List.getElem?_eq_getElem _⟩
      have f0 := bl_cell hb (hc k f hfk 0 _ rfl)
      have f1 := bl_cell hb (hc k f hfk 1 _ rfl)
      have f2 := bl_cell hb (hc k f hfk 2 _ rfl)
      have f3 := bl_cell hb (hc k f hfk 3 _ rfl)
      simp only [elFib, Nat.add_zero] at f0 f1 f2 f3
      clear hc
      go_wp2_with fail
      refine (toFiber_any f _).mono ?_
      rintro e w2 ⟨rfl, hb2⟩
      have hblk2 := hid (hblk.out.below hb2 hblk.out.lt)
      obtain ⟨u0, hu0⟩ := hblk2.out.cell_ (i := k * 4) (by rw [hsz.out]; omega)
      obtain ⟨u1, hu1⟩ := hblk2.out.cell_ (i := k * 4 + 1) (by rw [hsz.out]; omega)
      obtain ⟨u2, hu2⟩ := hblk2.out.cell_ (i := k * 4 + 2) (by rw [hsz.out]; omega)
      obtain ⟨u3, hu3⟩ := hblk2.out.cell_ (i := k * 4 + 3) (by rw [hsz.out]; omega)
      have z0 := hblk2.out.frozen (k * 4)
      have z1 := hblk2.out.frozen (k * 4 + 1)
      have z2 := hblk2.out.frozen (k * 4 + 2)
      have z3 := hblk2.out.frozen (k * 4 + 3)
      have HB := hid (hblk2.out.put4 k f)
      have HS : Hid ((put4 cur k f).size = n * 4) := (put4_size _ _ _).trans hsz.out
      have HF := hid (hfill.out.put4 hfk (by rw [hsz.out]; omega))
      have hb3 := bl_set (bl_set (bl_set (bl_set (bl_then hb hb2) (p := ⟨w.heap.size, k * 4, none⟩) (.int .i64 f.a) (Nat.le_refl _)) (p := ⟨w.heap.size, k * 4 + 1, none⟩) (.int .i64 f.b) (Nat.le_refl _)) (p := ⟨w.heap.size, k * 4 + 2, none⟩) (.int .i64 f.len) (Nat.le_refl _)) (p := ⟨w.heap.size, k * 4 + 3, none⟩) (.int .i64 f.risk) (Nat.le_refl _)
      clear f0 f1 f2 f3 hblk hblk2 hsz hfill hfk
      unfold fibV
      go_wp2
      go_roundw
      case rel => exact ⟨k + 1, _, by omega, by go_num, HB, HS, HF, hb3⟩
      case measure => simp [intOf]; omega
    · go_wp2
      go_ret
      have hkn : k = n := by omega
      exact ⟨_, rfl, Owns.of_filled hblk.out (Nat.le_refl _) hA.len hsz.out (by simp only [maxLen]; omega) (by rw [← hkn]; exact hfill.out), hb⟩
end Go.Proofs.Ytdnmkcalpfkfhaa
