/- FnExactJoinStrings: the law returns true at every input; memory that was there reads as it did. Conditions: none. -/
import Derived.Test.YtjebihhceechiaaZ6bf9cf2a464d
import Derived.Shelf.Strings.Builder1
import Derived.Shelf.Strings.Builder2
import Derived.Shelf.Strings.OnBuilder
import Derived.Shelf.Small.Strs
import Derived.Shelf.Strings.Search1
import Derived.Test.YtjebihhceechiaaProg
import Derived.Test.YtjebihhceechiaaRows
/- SplitString of both sides, walked. Conditions: the string has at most 1048576 bytes. -/
namespace Go.Proofs.Ytjebihhceechiaa
open Go.RowKit
set_option maxHeartbeats 2000000 in
set_option maxRecDepth 100000 in
theorem l1Split_any (s : ByteArray) (b : Int) (w : World) (hs : s.size ≤ 1048576) :
    Calls Try.prog 28 #[.string s, .int .u8 b] w fun e w' => ∃ v, e = .returned v ∧ Owns elStr w' w.heap.size 9 v (splA s b) ∧ Below w.heap.size w w' := by
  have hS := (Led.nil w).empty elStr 9 w.heap.size rfl w.heap.size (Nat.le_refl _)
  obtain ⟨i0, hi, hz0, hz1, hz2⟩ := info_parts str_info
  have HS : Hid (Led w (w.alloc (.cells #[] 9)) [tOwns elStr w.heap.size 9 (.slice (some ⟨w.heap.size, 0, none⟩) 0 0) (splT s b 0).1]) := hS
  have HA : Hid (splA s b = (splT s b s.size).1 ++ [s.extract (splT s b s.size).2 s.size]) := rfl
  clear hS
  go_enter Try.func28, Try.ntmps28
  go_wp2_with fail
  go_loopw [5, 6, 7] (fun v f i wr => ∃ k m : Nat, k ≤ s.size ∧ m ≤ k ∧ i = .int .i64 k ∧ f = .int .i64 m ∧ Hid (m = (splT s b k).2) ∧ Hid (Led w wr [tOwns elStr w.heap.size 9 v (splT s b k).1])) (fun _ _ i _ => s.size - (intOf i).toNat)
  case atStart => exact ⟨0, 0, Nat.zero_le _, Nat.le_refl _, rfl, rfl, rfl, HS⟩
  case round =>
    clear HS
    obtain ⟨k, m, hk, hm, rfl, rfl, HM, HS⟩ := hrel
    have hbd := splT_bd (s := s) (b := b) k
    obtain ⟨A3, c3, rfl, _⟩ := HS.out.form 0 rfl
    by_cases hlt : k < s.size
    · by_cases hb : (s[k].toNat : Int) = b
      · have HN : Hid (splT s b (k + 1) = ((splT s b k).1 ++ [s.extract m k], k + 1)) := by have := splT_yes hlt hb; rw [← HM.out] at this; exact this
        have hb2 : ((s[k].toNat : Int) == b) = true := by rw [hb]; exact beq_self_eq_true b
        have HS2 := hid (HS.out.blk_ wr.heap.size rfl 9 #[.string (s.extract m k)])
        clear hb HM
        go_wp2_with (first
          | (at_builtin; refine wpList_append_led rfl _ _ 27 rfl HS2.out 1 rfl Try.underlying27 hi hz0 hz1 (by rw [hz2]; decide) rfl rfl rfl (show Sees elStr _ _ _ 1 [s.extract m k] from sees_new elStr _ _ _ _ rfl) (by omega) HS2.out.bl.size ?_)
          | go_in)
        intro A2 c2 w7 hS5
        have hS6 := hid (hS5.drop 1)
        have HM2 : Hid (k + 1 = (splT s b (k + 1)).2) := by rw [HN.out]; rfl
        clear HS2 hS5
        go_wp2
        go_roundw
        case rel => exact ⟨k + 1, k + 1, by omega, Nat.le_refl _, by go_num, by go_num, HM2, by rw [HN.out]; exact hS6⟩
        case measure => simp [intOf]; omega
      · have HN : Hid (splT s b (k + 1) = splT s b k) := splT_no hlt hb
        have hb2 : ((s[k].toNat : Int) == b) = false := by rw [beq_eq_false_iff_ne]; exact hb
        clear hb
        go_wp2
        go_roundw
        case rel => exact ⟨k + 1, m, by omega, by omega, by go_num, rfl, by rw [HN.out]; exact HM, by rw [HN.out]; exact HS⟩
        case measure => simp [intOf]; omega
    · have hkm : k = s.size := by omega
      subst hkm
      have HS2 := hid (HS.out.blk_ wr.heap.size rfl 9 #[.string (s.extract m s.size)])
      go_wp2_with (first
        | (at_builtin; refine wpList_append_led rfl _ _ 27 rfl HS2.out 1 rfl Try.underlying27 hi hz0 hz1 (by rw [hz2]; decide) rfl rfl rfl (show Sees elStr _ _ _ 1 [s.extract m s.size] from sees_new elStr _ _ _ _ rfl) (by omega) HS2.out.bl.size ?_)
        | go_in)
      intro A2 c2 w7 hS5
      have hS6 := hid (hS5.drop 1)
      clear HS2 hS5
      go_wp2
      go_ret
      refine ⟨_, rfl, ?_, hS6.out.bl⟩
      rw [HA.out, ← HM.out]
      exact hS6.out.own 0 rfl
/-- The byte of a separator. -/
def sepB (sep : ByteArray) : Int := if h : 0 < sep.size then (sep[0].toNat : Int) else 0
def splOk (s sep : ByteArray) : Bool := decide (s.size ≤ 4000) && decide (sep.size = 1)
def splR (s sep : ByteArray) : List ByteArray := if splOk s sep then splA s (sepB sep) else []
set_option maxHeartbeats 2000000 in
set_option maxRecDepth 100000 in
theorem specSplit_any (s sep : ByteArray) (w : World) (hs : s.size ≤ 1048576) (_hp : sep.size ≤ 1048576) :
    Calls Try.prog 13 #[.string s, .string sep] w fun e w' => ∃ v, e = .returned (.tuple #[v, .bool (splOk s sep)]) ∧ Owns elStr w' w.heap.size 9 v (splR s sep) ∧ Below w.heap.size w w' := by
  by_cases h1 : sep.size = 1
  · by_cases h2 : s.size ≤ 4000
    · have h0 : 0 < sep.size := by omega
      have HO : Hid (splOk s sep = true) := by unfold Hid splOk; rw [decide_eq_true h1, decide_eq_true h2]; rfl
      have HB : Hid (sepB sep = ((sep[0]'h0).toNat : Int)) := by unfold Hid sepB; rw [dif_pos h0]
      have HR : Hid (splR s sep = splA s ((sep[0]'h0).toNat : Int)) := by unfold Hid splR; rw [HO.out, HB.out]; rfl
      rw [HO.out]
      have e1 : ((sep.size : Int) != 1) = false := by rw [h1]; rfl
      clear h1
      go_enter Try.func13, Try.ntmps13
      go_wp2_with fail
      refine (l1Split_any s _ _ hs).mono ?_
      rintro e w1 ⟨v, rfl, ho, hb⟩
      go_wp2_with fail
      go_ret2
      exact ⟨_, rfl, by rw [HR.out]; exact ho, hb⟩
    · have HO : Hid (splOk s sep = false) := by unfold Hid splOk; rw [decide_eq_false h2]; rfl
      have HR : Hid (splR s sep = []) := by unfold Hid splR; rw [HO.out]; rfl
      rw [HO.out]
      have e1 : ((sep.size : Int) != 1) = false := by rw [h1]; rfl
      clear h1
      have hS := (Led.nil w).empty elStr 9 w.heap.size rfl w.heap.size (Nat.le_refl _)
      have HS := hid hS
      clear hS
      go_enter Try.func13, Try.ntmps13
      go_wp2_with fail
      go_ret2
      exact ⟨_, rfl, by rw [HR.out]; exact HS.out.own 0 rfl, HS.out.bl⟩
  · have HO : Hid (splOk s sep = false) := by unfold Hid splOk; rw [decide_eq_false h1]; simp
    have HR : Hid (splR s sep = []) := by unfold Hid splR; rw [HO.out]; rfl
    rw [HO.out]
    have e1 : ((sep.size : Int) != 1) = true := by rw [bne_iff_ne]; omega
    have hS := (Led.nil w).empty elStr 9 w.heap.size rfl w.heap.size (Nat.le_refl _)
    have HS := hid hS
    clear hS h1
    go_enter Try.func13, Try.ntmps13
    go_wp2_with fail
    go_ret2
    exact ⟨_, rfl, by rw [HR.out]; exact HS.out.own 0 rfl, HS.out.bl⟩
set_option maxHeartbeats 2000000 in
set_option maxRecDepth 100000 in
theorem implSplit_any (s sep : ByteArray) (w : World) (hs : s.size ≤ 1048576) (_hp : sep.size ≤ 1048576) :
    Calls Try.prog 14 #[.string s, .string sep] w fun e w' => ∃ v, e = .returned (.tuple #[v, .bool (splOk s sep)]) ∧ Owns elStr w' w.heap.size 9 v (splR s sep) ∧ Below w.heap.size w w' := by
  by_cases h1 : sep.size = 1
  · by_cases h2 : s.size ≤ 4000
    · have h0 : 0 < sep.size := by omega
      have HO : Hid (splOk s sep = true) := by unfold Hid splOk; rw [decide_eq_true h1, decide_eq_true h2]; rfl
      obtain ⟨b, hbv⟩ : ∃ b, b = ((sep[0]'h0).toNat : Int) := ⟨_, rfl⟩
      have HBV := hid hbv
      have HB : Hid (sepB sep = b) := by unfold Hid sepB; rw [dif_pos h0, hbv]
      have HR : Hid (splR s sep = splA s b) := by unfold Hid splR; rw [HO.out, HB.out]; rfl
      rw [HO.out]
      have e1 : ((sep.size : Int) != 1) = false := by rw [h1]; rfl
      clear h1
      have hS := (Led.nil w).empty elStr 9 w.heap.size rfl w.heap.size (Nat.le_refl _)
      obtain ⟨i0, hi, hz0, hz1, hz2⟩ := info_parts str_info
      have HS : Hid (Led w (w.alloc (.cells #[] 9)) [tOwns elStr w.heap.size 9 (.slice (some ⟨w.heap.size, 0, none⟩) 0 0) (splT s b 0).1]) := hS
      have HA : Hid (splA s b = (splT s b s.size).1 ++ [s.extract (splT s b s.size).2 s.size]) := rfl
      clear hS hbv
      go_enter Try.func14, Try.ntmps14
      go_wp2_with fail
      go_loopw [6, 7, 8] (fun v f i wr => ∃ k m : Nat, k ≤ s.size ∧ m ≤ k ∧ i = .int .i64 k ∧ f = .int .i64 m ∧ Hid (m = (splT s b k).2) ∧ Hid (Led w wr [tOwns elStr w.heap.size 9 v (splT s b k).1])) (fun _ _ i _ => s.size - (intOf i).toNat)
      case atStart => exact ⟨0, 0, Nat.zero_le _, Nat.le_refl _, rfl, rfl, rfl, HS⟩
      case round =>
        clear HS
        obtain ⟨k, m, hk, hm, rfl, rfl, HM, HS⟩ := hrel
        have hbd := splT_bd (s := s) (b := b) k
        obtain ⟨A3, c3, rfl, _⟩ := HS.out.form 0 rfl
        by_cases hlt : k < s.size
        · have i1 : (k : Int) < (s.size : Int) := by omega
          by_cases hb : (s[k].toNat : Int) = b
          · have HN : Hid (splT s b (k + 1) = ((splT s b k).1 ++ [s.extract m k], k + 1)) := by have := splT_yes hlt hb; rw [← HM.out] at this; exact this
            have hb2 : ((s[k].toNat : Int) == (sep[0].toNat : Int)) = true := by rw [hb, HBV.out]; exact beq_self_eq_true _
            clear hb HM
            go_wp2_with fail
            refine region_cls (by kernel_rfl) (by kernel_rfl) ?_
            repeat (first
              | ((with_reducible refine quiet_pos ?_ (fun K hK => ?_))
                 · rfl
                 apply Exists.intro
                 refine ⟨fun w' hw' => ?_, ?_⟩
                 · go_simp
                   with_reducible rfl
                 simp only [Act.put, List.setIfInBounds_toArray, List.set_cons_zero, List.set_cons_succ]
                 refine hK _ ?_; clear hK K)
              | ((with_reducible refine quiet_neg ?_ (fun K hK => ?_))
                 · rfl
                 simp only [Act.put, List.setIfInBounds_toArray, List.set_cons_zero, List.set_cons_succ]
                 refine hK _ ?_; clear hK K))
            with_reducible refine wpQuiet_nil ?_
            intro wz hwz'
            have HS2 := hid (HS.out.step hwz')
            have HS3 := hid (HS2.out.blk_ wz.heap.size rfl 9 #[.string (s.extract m k)])
            clear hwz'
            go_wp2_with (first
              | (at_builtin; refine wpList_append_led rfl _ _ 27 rfl HS3.out 1 rfl Try.underlying27 hi hz0 hz1 (by rw [hz2]; decide) rfl rfl rfl (show Sees elStr _ _ _ 1 [s.extract m k] from sees_new elStr _ _ _ _ rfl) (by omega) HS3.out.bl.size ?_)
              | go_in)
            intro A2 c2 w7 hS5
            have hS6 := hid (hS5.drop 1)
            have HM2 : Hid (k + 1 = (splT s b (k + 1)).2) := by rw [HN.out]; rfl
            clear HS2 HS3 hS5
            go_wp2
            go_roundw
            case rel => exact ⟨k + 1, k + 1, by omega, Nat.le_refl _, by go_num, by go_num, HM2, by rw [HN.out]; exact hS6⟩
            case measure => simp [intOf]; omega
          · have HN : Hid (splT s b (k + 1) = splT s b k) := splT_no hlt hb
            have hb2 : ((s[k].toNat : Int) == (sep[0].toNat : Int)) = false := by rw [beq_eq_false_iff_ne, ← HBV.out]; exact hb
            clear hb
            go_wp2_with fail
            refine region_cls (by kernel_rfl) (by kernel_rfl) ?_
            repeat (first
              | ((with_reducible refine quiet_pos ?_ (fun K hK => ?_))
                 · rfl
                 apply Exists.intro
                 refine ⟨fun w' hw' => ?_, ?_⟩
                 · go_simp
                   with_reducible rfl
                 simp only [Act.put, List.setIfInBounds_toArray, List.set_cons_zero, List.set_cons_succ]
                 refine hK _ ?_; clear hK K)
              | ((with_reducible refine quiet_neg ?_ (fun K hK => ?_))
                 · rfl
                 simp only [Act.put, List.setIfInBounds_toArray, List.set_cons_zero, List.set_cons_succ]
                 refine hK _ ?_; clear hK K))
            with_reducible refine wpQuiet_nil ?_
            intro wz hwz'
            have HS2 := hid (HS.out.step hwz')
            clear hwz'
            go_wp2
            go_roundw
            case rel => exact ⟨k + 1, m, by omega, by omega, by go_num, rfl, by rw [HN.out]; exact HM, by rw [HN.out]; exact HS2⟩
            case measure => simp [intOf]; omega
        · have hkm : k = s.size := by omega
          subst hkm
          have HS2 := hid (HS.out.blk_ wr.heap.size rfl 9 #[.string (s.extract m s.size)])
          go_wp2_with (first
            | (at_builtin; refine wpList_append_led rfl _ _ 27 rfl HS2.out 1 rfl Try.underlying27 hi hz0 hz1 (by rw [hz2]; decide) rfl rfl rfl (show Sees elStr _ _ _ 1 [s.extract m s.size] from sees_new elStr _ _ _ _ rfl) (by omega) HS2.out.bl.size ?_)
            | go_in)
          intro A2 c2 w7 hS5
          have hS6 := hid (hS5.drop 1)
          clear HS2 hS5
          go_wp2
          go_ret2
          refine ⟨_, rfl, ?_, hS6.out.bl⟩
          rw [HR.out, HA.out, ← HM.out]
          exact hS6.out.own 0 rfl
    · have HO : Hid (splOk s sep = false) := by unfold Hid splOk; rw [decide_eq_false h2]; rfl
      have HR : Hid (splR s sep = []) := by unfold Hid splR; rw [HO.out]; rfl
      rw [HO.out]
      have e1 : ((sep.size : Int) != 1) = false := by rw [h1]; rfl
      clear h1
      go_enter Try.func14, Try.ntmps14
      go_wp2_with fail
      go_ret2
      exact ⟨_, rfl, by rw [HR.out]; exact World.ownsRow_nil _ _ _ _, Below.refl _ _⟩
  · have HO : Hid (splOk s sep = false) := by unfold Hid splOk; rw [decide_eq_false h1]; simp
    have HR : Hid (splR s sep = []) := by unfold Hid splR; rw [HO.out]; rfl
    rw [HO.out]
    have e1 : ((sep.size : Int) != 1) = true := by rw [bne_iff_ne]; omega
    clear h1
    by_cases h2 : s.size ≤ 4000
    all_goals
      go_enter Try.func14, Try.ntmps14
      go_wp2_with fail
      go_ret2
      exact ⟨_, rfl, by rw [HR.out]; exact World.ownsRow_nil _ _ _ _, Below.refl _ _⟩
end Go.Proofs.Ytjebihhceechiaa
/-
  DERIVED: THE SHELF's CONTRACTS AT THIS DUMP, IN PLAIN WORDS (tools/lay-plain.mjs out of 'TryShelf.lean', which tools/lay-shelf.mjs wrote): THE SAME DECLARATIONS UNDER THE SAME NAMES: 'import', 'namespace', 'open', 'def', 'theorem' AND NOTHING ELSE: no command of the shelf's: FOR A HAND-IN. Each laying: the table of numbers ('.._ren') and one theorem, a field a fact of the dump's own or the kernel's comparison; each contract: ONE APPLICATION.
-/
namespace Go.Proofs
open Go.Shelf
def Try.lays169_ren : Go.Shelf.Ren := ⟨fun | 169 => 40 | n => n, fun | 70 => 56 | 9 => 9 | 0 => 0 | 72 => 58 | 37 => 36 | 127 => 65 | 3 => 3 | 5 => 5 | n => n, fun | n => n⟩
theorem Try.lays169 : Go.Proofs.Lays.n169 Try.prog Try.lays169_ren := {
  mixed := by kernel_rfl
  f169 := Try.func40.trans (congrArg some (by kernel_rfl))
  t0 := Try.underlying0
  a0 := Try.isAgg0
  z0 := Try.sizeOf0
  v0 := Try.zeroValue0
  t3 := Try.underlying3
  a3 := Try.isAgg3
  z3 := Try.sizeOf3
  v3 := Try.zeroValue3
  t9 := Try.underlying9
  a9 := Try.isAgg9
  z9 := Try.sizeOf9
  v9 := Try.zeroValue9
  t37 := Try.underlying36
  a37 := Try.isAgg36
  z37 := Try.sizeOf36
  v37 := Try.zeroValue36
  t70 := Try.underlying56
  a70 := Try.isAgg56
  z70 := Try.sizeOf56
  v70 := Try.zeroValue56
  t72 := Try.underlying58
  a72 := Try.isAgg58
  z72 := Try.sizeOf58
  v72 := Try.zeroValue58
  t127 := Try.underlying65
  a127 := Try.isAgg65
  z127 := Try.sizeOf65
  v127 := Try.zeroValue65 }
theorem Try.Builder_Extra_169 : Builder.Extra Try.prog Try.lays169_ren := {
  sizeBuilder := by kernel_rfl
  liesBuilder := by kernel_rfl
  t5 := Try.underlying5
  a5 := Try.isAgg5
  z5 := Try.sizeOf5
  v5 := Try.zeroValue5
  infoByte := by kernel_rfl
  cellsByte := by kernel_rfl
  sizeByte := by kernel_rfl
  neB5 := by decide }
open Go.RowKit in
/-- (*strings.Builder).String: "String returns the accumulated string.": OF A BUILDER THAT HOLDS AT LEAST ONE BYTE. ✋ THE MODEL FREEZES THOSE BYTES IN THE BUFFER (unsafe.String): a later write INTO them ends the model's run without an answer; a later append BEHIND them goes on. The statement's order of evaluation is drawn: one draw. (LAID: no walk: one application.) -/
theorem Try.Builder_String (B b : Nat) (l : List UInt8) (w : World) (h : Lib.IsBuilder 58 5 B b (Lib.byteCells l) w) (h0 : l ≠ []) :
    Calls Try.prog 40 #[.pointer (some ⟨b, 0, none⟩)] w fun e w' => e = .returned (.string ⟨l.toArray⟩) ∧ Below B w w' := Any.Builder_String Try.lays169 Try.Builder_Extra_169 B b l w h h0
open Go.RowKit in
/-- (*strings.Builder).String OF A BUILDER THAT HOLDS NO BYTE: the empty string. (Its buffer is nil, or a row of which it has taken nothing yet; where that row has NO capacity the model lays one new block for unsafe.SliceData's 'some address'.) One draw. (LAID: no walk: one application.) -/
theorem Try.Builder_String_empty (B b : Nat) (w : World) (h : Lib.IsBuilder 58 5 B b [] w) (hBw : B ≤ w.heap.size) :
    Calls Try.prog 40 #[.pointer (some ⟨b, 0, none⟩)] w fun e w' => e = .returned (.string ⟨#[]⟩) ∧ Below B w w' := Any.Builder_String_empty Try.lays169 Try.Builder_Extra_169 B b w h hBw
open Go.RowKit in
/-- (*strings.Builder).String: "String returns the accumulated string.": WHATEVER THE BUILDER HOLDS. (LAID: no walk: one application.) -/
theorem Try.Builder_String_any (B b : Nat) (l : List UInt8) (w : World) (h : Lib.IsBuilder 58 5 B b (Lib.byteCells l) w) (hBw : B ≤ w.heap.size) :
    Calls Try.prog 40 #[.pointer (some ⟨b, 0, none⟩)] w fun e w' => e = .returned (.string ⟨l.toArray⟩) ∧ Below B w w' := Any.Builder_String_any Try.lays169 Try.Builder_Extra_169 B b l w h hBw
def Try.lays241_ren : Go.Shelf.Ren := ⟨fun | 241 => 44 | 277 => 46 | n => n, fun | 70 => 56 | 3 => 3 | 0 => 0 | 72 => 58 | 37 => 36 | 5 => 5 | n => n, fun | n => n⟩
theorem Try.lays241 : Go.Proofs.Lays.n241 Try.prog Try.lays241_ren := {
  mixed := by kernel_rfl
  f241 := Try.func44.trans (congrArg some (by kernel_rfl))
  f277 := Try.func46.trans (congrArg some (by kernel_rfl))
  t0 := Try.underlying0
  a0 := Try.isAgg0
  z0 := Try.sizeOf0
  v0 := Try.zeroValue0
  t3 := Try.underlying3
  a3 := Try.isAgg3
  z3 := Try.sizeOf3
  v3 := Try.zeroValue3
  t37 := Try.underlying36
  a37 := Try.isAgg36
  z37 := Try.sizeOf36
  v37 := Try.zeroValue36
  t70 := Try.underlying56
  a70 := Try.isAgg56
  z70 := Try.sizeOf56
  v70 := Try.zeroValue56
  t72 := Try.underlying58
  a72 := Try.isAgg58
  z72 := Try.sizeOf58
  v72 := Try.zeroValue58 }
theorem Try.Builder_Extra_241 : Builder.Extra Try.prog Try.lays241_ren := {
  sizeBuilder := by kernel_rfl
  liesBuilder := by kernel_rfl
  t5 := Try.underlying5
  a5 := Try.isAgg5
  z5 := Try.sizeOf5
  v5 := Try.zeroValue5
  infoByte := by kernel_rfl
  cellsByte := by kernel_rfl
  sizeByte := by kernel_rfl
  neB5 := by decide }
open Go.RowKit in
/-- (*strings.Builder).grow (no doc but "grow copies the buffer to a new, larger buffer so that there are at least n bytes of capacity beyond len(b.buf)."): AT A BUILDER WITHOUT A BUFFER: a new row of whatever bytes for its buffer, none of them its own yet. Three draws. (LAID: no walk: one application.) -/
theorem Try.Builder_grow_fresh (B b n : Nat) (w : World) (hB : B ≤ b) (hbk : w.heap[b]? = some (.cells #[.pointer (some ⟨b, 0, none⟩), .slice none 0 0] 58 (0, 0))) (hBw : B ≤ w.heap.size) (hn : n ≤ 281474976710656) :
    Calls Try.prog 44 #[.pointer (some ⟨b, 0, none⟩), .int .i64 n] w fun e w' => e = .returned (.tuple #[]) ∧ (Lib.BuilderAt 58 5 B b (.pointer (some ⟨b, 0, none⟩)) [] w' ∧ Below B w w') := Any.Builder_grow_fresh Try.lays241 Try.Builder_Extra_241 B b n w hB hbk hBw hn
def Try.lays165_ren : Go.Shelf.Ren := ⟨fun | 165 => 38 | 240 => 43 | 241 => 44 | 276 => 45 | 277 => 46 | n => n, fun | 70 => 56 | 3 => 3 | 0 => 0 | 4 => 4 | 9 => 9 | 20 => 20 | 72 => 58 | 37 => 36 | 164 => 67 | 5 => 5 | n => n, fun | n => n⟩
theorem Try.lays165 : Go.Proofs.Lays.n165 Try.prog Try.lays165_ren := {
  mixed := by kernel_rfl
  f165 := Try.func38.trans (congrArg some (by kernel_rfl))
  f240 := Try.func43.trans (congrArg some (by kernel_rfl))
  f241 := Try.func44.trans (congrArg some (by kernel_rfl))
  f276 := Try.func45.trans (congrArg some (by kernel_rfl))
  f277 := Try.func46.trans (congrArg some (by kernel_rfl))
  t0 := Try.underlying0
  a0 := Try.isAgg0
  z0 := Try.sizeOf0
  v0 := Try.zeroValue0
  t3 := Try.underlying3
  a3 := Try.isAgg3
  z3 := Try.sizeOf3
  v3 := Try.zeroValue3
  t4 := Try.underlying4
  a4 := Try.isAgg4
  z4 := Try.sizeOf4
  v4 := Try.zeroValue4
  t9 := Try.underlying9
  a9 := Try.isAgg9
  z9 := Try.sizeOf9
  v9 := Try.zeroValue9
  t20 := Try.underlying20
  a20 := Try.isAgg20
  z20 := Try.sizeOf20
  v20 := Try.zeroValue20
  t37 := Try.underlying36
  a37 := Try.isAgg36
  z37 := Try.sizeOf36
  v37 := Try.zeroValue36
  t70 := Try.underlying56
  a70 := Try.isAgg56
  z70 := Try.sizeOf56
  v70 := Try.zeroValue56
  t72 := Try.underlying58
  a72 := Try.isAgg58
  z72 := Try.sizeOf58
  v72 := Try.zeroValue58
  t164 := Try.underlying67
  a164 := Try.isAgg67
  z164 := Try.sizeOf67
  v164 := Try.zeroValue67 }
theorem Try.Builder_Extra_165 : Builder.Extra Try.prog Try.lays165_ren := {
  sizeBuilder := by kernel_rfl
  liesBuilder := by kernel_rfl
  t5 := Try.underlying5
  a5 := Try.isAgg5
  z5 := Try.sizeOf5
  v5 := Try.zeroValue5
  infoByte := by kernel_rfl
  cellsByte := by kernel_rfl
  sizeByte := by kernel_rfl
  neB5 := by decide }
open Go.RowKit in
/-- (*strings.Builder).Grow AT A BUILDER THAT HAS NOT BEEN WRITTEN ('var b strings.Builder; b.Grow(n)'): "Grow grows b's capacity, if necessary, to guarantee space for another n bytes.": it holds no byte behind it as before it. (LAID: no walk: one application.) -/
theorem Try.Builder_Grow_fresh (B b n : Nat) (w : World) (hB : B ≤ b) (hbk : w.heap[b]? = some (.cells #[.pointer none, .slice none 0 0] 58 (0, 0))) (hBw : B ≤ w.heap.size) (hn : n ≤ 281474976710656) :
    Calls Try.prog 38 #[.pointer (some ⟨b, 0, none⟩), .int .i64 n] w fun e w' => e = .returned (.tuple #[]) ∧ (Lib.BuilderAt 58 5 B b (.pointer (some ⟨b, 0, none⟩)) [] w' ∧ Below B w w') := Any.Builder_Grow_fresh Try.lays165 Try.Builder_Extra_165 B b n w hB hbk hBw hn
def Try.lays156_ren : Go.Shelf.Ren := ⟨fun | 156 => 32 | 165 => 38 | 166 => 39 | 169 => 40 | 240 => 43 | 241 => 44 | 276 => 45 | 277 => 46 | n => n, fun | 31 => 27 | 9 => 9 | 3 => 3 | 4 => 4 | 0 => 0 | 20 => 20 | 72 => 58 | 76 => 62 | 70 => 56 | 37 => 36 | 75 => 61 | 127 => 65 | 164 => 67 | 5 => 5 | 80 => 52 | n => n, fun | n => n⟩
theorem Try.lays156 : Go.Proofs.Lays.n156 Try.prog Try.lays156_ren := {
  mixed := by kernel_rfl
  f156 := Try.func32.trans (congrArg some (by kernel_rfl))
  f165 := Try.func38.trans (congrArg some (by kernel_rfl))
  f166 := Try.func39.trans (congrArg some (by kernel_rfl))
  f169 := Try.func40.trans (congrArg some (by kernel_rfl))
  f240 := Try.func43.trans (congrArg some (by kernel_rfl))
  f241 := Try.func44.trans (congrArg some (by kernel_rfl))
  f276 := Try.func45.trans (congrArg some (by kernel_rfl))
  f277 := Try.func46.trans (congrArg some (by kernel_rfl))
  t0 := Try.underlying0
  a0 := Try.isAgg0
  z0 := Try.sizeOf0
  v0 := Try.zeroValue0
  t3 := Try.underlying3
  a3 := Try.isAgg3
  z3 := Try.sizeOf3
  v3 := Try.zeroValue3
  t4 := Try.underlying4
  a4 := Try.isAgg4
  z4 := Try.sizeOf4
  v4 := Try.zeroValue4
  t9 := Try.underlying9
  a9 := Try.isAgg9
  z9 := Try.sizeOf9
  v9 := Try.zeroValue9
  t20 := Try.underlying20
  a20 := Try.isAgg20
  z20 := Try.sizeOf20
  v20 := Try.zeroValue20
  t31 := Try.underlying27
  a31 := Try.isAgg27
  z31 := Try.sizeOf27
  v31 := Try.zeroValue27
  t37 := Try.underlying36
  a37 := Try.isAgg36
  z37 := Try.sizeOf36
  v37 := Try.zeroValue36
  t70 := Try.underlying56
  a70 := Try.isAgg56
  z70 := Try.sizeOf56
  v70 := Try.zeroValue56
  t72 := Try.underlying58
  a72 := Try.isAgg58
  z72 := Try.sizeOf58
  v72 := Try.zeroValue58
  t75 := Try.underlying61
  a75 := Try.isAgg61
  z75 := Try.sizeOf61
  v75 := Try.zeroValue61
  t76 := Try.underlying62
  a76 := Try.isAgg62
  z76 := Try.sizeOf62
  v76 := Try.zeroValue62
  t127 := Try.underlying65
  a127 := Try.isAgg65
  z127 := Try.sizeOf65
  v127 := Try.zeroValue65
  t164 := Try.underlying67
  a164 := Try.isAgg67
  z164 := Try.sizeOf67
  v164 := Try.zeroValue67 }
theorem Try.Builder_Extra_156 : Builder.Extra Try.prog Try.lays156_ren := {
  sizeBuilder := by kernel_rfl
  liesBuilder := by kernel_rfl
  t5 := Try.underlying5
  a5 := Try.isAgg5
  z5 := Try.sizeOf5
  v5 := Try.zeroValue5
  infoByte := by kernel_rfl
  cellsByte := by kernel_rfl
  sizeByte := by kernel_rfl
  neB5 := by decide }
open Go.RowKit in
/-- No element: the empty string; the world is as it was. (Whatever the slice's address and capacity: a nil slice too.) (LAID: no walk: one application.) -/
theorem Try.strings_Join_none (a : Option Addr) (c : Nat) (sep : ByteArray) (w : World) :
    Calls Try.prog 32 #[.slice a 0 c, .string sep] w fun e w' => e = .returned (.string ⟨#[]⟩) ∧ w' = w := Any.strings_Join_none Try.lays156 Try.Builder_Extra_156 a c sep w
open Go.RowKit in
/-- strings.Join: "Join concatenates the elements of its first argument to create a single string. The separator string sep is placed between elements in the resulting string.": HOWEVER MANY ELEMENTS. Below the heap's end the world is as it was. (LAID: no walk: one application.) -/
theorem Try.strings_Join (bk o c : Nat) (xs : List ByteArray) (sep : ByteArray) (w : World) (hcells : ∀ (j : Nat) x, xs[j]? = some x → w.cell? ⟨bk, o + j, none⟩ = some (.string x)) (hbk : bk < w.heap.size) (hN : xs.length ≤ 140737488355328) (hcap : xs.length ≤ c) (hlen : (Lib.join (xs.map (·.data.toList)) sep.data.toList).length ≤ 140737488355328) :
    Calls Try.prog 32 #[.slice (some ⟨bk, o, none⟩) xs.length c, .string sep] w fun e w' => e = .returned (.string ⟨(Lib.join (xs.map (·.data.toList)) sep.data.toList).toArray⟩) ∧ Below w.heap.size w w' := Any.strings_Join Try.lays156 Try.Builder_Extra_156 bk o c xs sep w hcells hbk hN hcap hlen
def Try.lays137_ren : Go.Shelf.Ren := ⟨fun | 137 => 31 | 217 => 37 | 266 => 42 | n => n, fun | 9 => 9 | 5 => 5 | 3 => 3 | n => n, fun | n => n⟩
theorem Try.lays137 : Go.Proofs.Lays.n137 Try.prog Try.lays137_ren := {
  mixed := by kernel_rfl
  f137 := Try.func31.trans (congrArg some (by kernel_rfl))
  f217 := Try.func37.trans (congrArg some (by kernel_rfl))
  f266 := Try.func42.trans (congrArg some (by kernel_rfl))
  t3 := Try.underlying3
  a3 := Try.isAgg3
  z3 := Try.sizeOf3
  v3 := Try.zeroValue3
  t5 := Try.underlying5
  a5 := Try.isAgg5
  z5 := Try.sizeOf5
  v5 := Try.zeroValue5
  t9 := Try.underlying9
  a9 := Try.isAgg9
  z9 := Try.sizeOf9
  v9 := Try.zeroValue9 }
open Go.RowKit in
/-- strings.IndexByte: "IndexByte returns the index of the first instance of c in s, or -1 if c is not present in s.": IT RETURNS 'Lib.indexByte s c'; the world is as it was. (LAID: no walk: one application.) -/
theorem Try.strings_IndexByte (s : ByteArray) (c : Int) (w : World) :
    Calls Try.prog 31 #[.string s, .int .u8 c] w fun e w' => e = .returned (.int .i64 (Lib.indexByte s.data.toList c.toNat.toUInt8)) ∧ w' = w := Any.strings_IndexByte Try.lays137 s c w
def Try.lays217_ren : Go.Shelf.Ren := ⟨fun | 217 => 37 | 266 => 42 | n => n, fun | 9 => 9 | 5 => 5 | 3 => 3 | n => n, fun | n => n⟩
theorem Try.lays217 : Go.Proofs.Lays.n217 Try.prog Try.lays217_ren := {
  mixed := by kernel_rfl
  f217 := Try.func37.trans (congrArg some (by kernel_rfl))
  f266 := Try.func42.trans (congrArg some (by kernel_rfl))
  t3 := Try.underlying3
  a3 := Try.isAgg3
  z3 := Try.sizeOf3
  v3 := Try.zeroValue3
  t5 := Try.underlying5
  a5 := Try.isAgg5
  z5 := Try.sizeOf5
  v5 := Try.zeroValue5
  t9 := Try.underlying9
  a9 := Try.isAgg9
  z9 := Try.sizeOf9
  v9 := Try.zeroValue9 }
open Go.RowKit Go.Lib in
/-- internal/stringslite.IndexByte (what strings.IndexByte calls): IT RETURNS 'Lib.indexByte s c'; the world is as it was. (LAID: no walk: one application.) -/
theorem Try.stringslite_IndexByte (s : ByteArray) (c : Int) (w : World) :
    Calls Try.prog 37 #[.string s, .int .u8 c] w fun e w' => e = .returned (.int .i64 (Lib.indexByte s.data.toList c.toNat.toUInt8)) ∧ w' = w := Any.stringslite_IndexByte Try.lays217 s c w
end Go.Proofs
/- JoinStrings of both sides, walked. Conditions: as each states. -/
namespace Go.Proofs.Ytjebihhceechiaa
open Go.RowKit
set_option maxRecDepth 100000 in
theorem l1Stands_any (s : ByteArray) (b : Int) (w : World) (hs : s.size ≤ 1048576) :
    Calls Try.prog 30 #[.string s, .int .u8 b] w fun e w' => e = .returned (.bool (hasC b s)) ∧ w = w' := by
  go_enter Try.func30, Try.ntmps30
  go_wp2_with fail
  go_loop [5] (fun i => ∃ k : Nat, k ≤ s.size ∧ i = .int .i64 k ∧ Hid (∀ u ∈ s.data.toList.take k, ¬ (u.toNat : Int) = b)) (fun i => s.size - (intOf i).toNat)
  case atStart => exact ⟨0, Nat.zero_le _, rfl, fun u hu => by simp at hu⟩
  case round =>
    obtain ⟨k, hk, rfl, HN⟩ := hrel
    by_cases hlt : k < s.size
    · by_cases hb : (s[k].toNat : Int) = b
      · have hb2 : ((s[k].toNat : Int) == b) = true := by rw [hb]; exact beq_self_eq_true b
        have HR : Hid (hasC b s = true) := by
          unfold Hid hasC
          rw [List.any_eq_true]
          exact ⟨s[k], List.mem_of_getElem? (get_extract hlt), decide_eq_true hb⟩
        clear hb
        go_wp2
        go_ret
        exact ⟨by rw [HR.out]; rfl, rfl⟩
      · have hb2 : ((s[k].toNat : Int) == b) = false := by rw [beq_eq_false_iff_ne]; exact hb
        have HN2 : Hid (∀ u ∈ s.data.toList.take (k + 1), ¬ (u.toNat : Int) = b) := by
          intro u hu
          rw [List.take_add_one, get_extract hlt] at hu
          rcases List.mem_append.1 hu with hu | hu
          · exact HN.out u hu
          · simp at hu; subst hu; exact hb
        clear hb HN
        go_wp2
        go_round
        case rel => exact ⟨k + 1, by omega, by go_num, HN2⟩
        case measure => simp [intOf]; omega
    · have hkm : k = s.size := by omega
      have HR : Hid (hasC b s = false) := by
        unfold Hid
        rw [hasC_false]
        have := HN.out
        rw [List.take_of_length_le (by simp; omega)] at this
        exact this
      clear HN hkm
      go_wp2
      go_ret
      exact ⟨by rw [HR.out]; rfl, rfl⟩
/-- JoinStrings' answer. -/
def jnOk (xs : List ByteArray) (sep : ByteArray) : Bool := decide (sep.size = 1) && okJ (sepB sep) xs
def jnS (xs : List ByteArray) (sep : ByteArray) : ByteArray := if h : sep.size = 1 then joinS (sep[0]'(by omega)) xs else ⟨#[]⟩
theorem sep_one {sep : ByteArray} (h : sep.size = 1) : sep.data.toList = [sep[0]'(by omega)] := by
  have hl : sep.data.toList.length = 1 := by simpa using h
  apply List.ext_getElem (by rw [hl]; rfl)
  intro i h1 h2
  have : i = 0 := by simp at h2; exact h2
  subst this
  rfl
section
variable {n cc : Nat} {A : Option Addr} {xs : List ByteArray}
set_option maxHeartbeats 2000000 in
set_option maxRecDepth 100000 in
theorem specJoin_any (sep : ByteArray) (w : World) (hA : Sees elStr w w.heap.size A n xs) (hn : n ≤ 1048576) (hx : ∀ x ∈ xs, x.size ≤ 1048576) (hp : sep.size ≤ 1048576) :
    Calls Try.prog 19 #[.slice A n cc, .string sep] w fun e w' => e = .returned (.tuple #[.string (jnS xs sep), .bool (jnOk xs sep)]) ∧ Below w.heap.size w w' := by
  have hlen := hA.len
  by_cases h1 : sep.size = 1
  · have h0 : 0 < sep.size := by omega
    obtain ⟨c, hc⟩ : ∃ c, c = sep[0]'h0 := ⟨_, rfl⟩
    obtain ⟨b, hb⟩ : ∃ b, b = (c.toNat : Int) := ⟨_, rfl⟩
    have HC := hid hc
    have HB := hid hb
    have HD : Hid (sep.data.toList = [c]) := by unfold Hid; rw [sep_one h1, hc]
    have HK : Hid (jnOk xs sep = okJ b xs) := by unfold Hid jnOk sepB; rw [dif_pos h0, decide_eq_true h1, hb, hc]; rfl
    have HS : Hid (jnS xs sep = joinS c xs) := by unfold Hid jnS; rw [dif_pos h1, hc]
    have e1 : ((sep.size : Int) != 1) = false := by rw [h1]; rfl
    have H1 := hid h1
    by_cases hn0 : n = 0
    · have HO : Hid (okJ b xs = false) := by unfold Hid okJ; rw [hlen, hn0]; rfl
      have HJ := hid (joinS_no (c := c) (xs := xs) (by rw [← hb]; exact HO.out))
      have e2 : ((n : Int) == 0) = true := by rw [hn0]; rfl
      clear h1 hc hb hn0 hlen
      go_enter Try.func19, Try.ntmps19
      go_wp2_with fail
      go_ret2
      exact ⟨by rw [HK.out, HO.out, HS.out, HJ.out]; rfl, Below.refl _ _⟩
    · have e2 : ((n : Int) == 0) = false := by rw [beq_eq_false_iff_ne]; omega
      have HX := hid hx
      have HL := hid hlen
      have HN0 := hid hn0
      have HSS := hid hA
      have hbz : ((sep[0]'h0).toNat : Int) = b := by rw [hb, hc]
      have HBZ := hid hbz
      clear h1 hc hb hn0 hx hlen hA hbz
      go_enter Try.func19, Try.ntmps19
      go_wp2_with fail
      go_loopw [6, 7] (fun o i wr => ∃ (k : Nat) (out : ByteArray), k ≤ n ∧ i = .int .i64 k ∧ o = .string out ∧ out.size ≤ 4000 ∧ Hid (out.data.toList = joinK c xs k) ∧ Hid (∀ j x, j < k → xs[j]? = some x → hasC b x = false) ∧ Below w.heap.size w wr) (fun _ i _ => n - (intOf i).toNat)
      case atStart => exact ⟨0, _, Nat.zero_le _, rfl, rfl, by decide, rfl, fun j x h => by omega, Below.refl _ _⟩
      case round =>
        obtain ⟨k, out, hk, rfl, rfl, ho, HO, HN, hbl⟩ := hrel
        by_cases hlt : k < n
        · obtain ⟨x, hxk⟩ : ∃ x, xs[k]? = some x := ⟨xs[k]'(by rw [HL.out]; exact hlt), List.getElem?_eq_getElem _⟩
          have hxs := HX.out x (List.mem_of_getElem? hxk)
          obtain ⟨bk, off, rfl, _, hcell⟩ := HSS.out.at_ hlt
          have hcx := hcell k x hxk 0 _ rfl
          simp only [elStr, Nat.mul_one, Nat.add_zero] at hcx
          have C0 : ∀ w', Cls wr w' → w'.cell? ⟨bk, off + k, none⟩ = some (.string x) := fun _ h => h.cell (bl_cell hbl hcx)
          obtain ⟨f, hf⟩ : ∃ f, hasC b x = f := ⟨_, rfl⟩
          have HF := hid hf
          have HST : Hid (∀ w', Calls Try.prog 30 #[.string x, .int .u8 (sep[0]'h0).toNat] w' fun e w2 => e = .returned (.bool f) ∧ w' = w2) := fun w' => by rw [HBZ.out, ← HF.out]; exact l1Stands_any x b w' hxs
          have i1 : (k : Int) < (n : Int) := by omega
          have XK := hid hxk
          clear hcell hcx hf hxk
          go_wp2_with fail
          refine region_cls (by kernel_rfl) (by kernel_rfl) ?_
          repeat (first
            | ((with_reducible refine quiet_pos ?_ (fun K hK => ?_))
               · rfl
               apply Exists.intro
               refine ⟨fun w' hw' => ?_, ?_⟩
               · go_simp
                 first
                   | with_reducible rfl
                   | go_at_call 30; with_reducible exact hw'.same (HST.out _)
               simp only [Act.put, List.setIfInBounds_toArray, List.set_cons_zero, List.set_cons_succ]
               refine hK _ ?_; clear hK K)
            | ((with_reducible refine quiet_neg ?_ (fun K hK => ?_))
               · rfl
               simp only [Act.put, List.setIfInBounds_toArray, List.set_cons_zero, List.set_cons_succ]
               refine hK _ ?_; clear hK K))
          with_reducible refine wpQuiet_nil ?_
          intro wz hwz'
          cases f
          · have HN2 : Hid (∀ j x, j < k + 1 → xs[j]? = some x → hasC b x = false) := by
              intro j y hj hy
              by_cases hjk : j = k
              · subst hjk
                rw [XK.out] at hy
                injection hy with hy
                rw [← hy]; exact HF.out
              · exact HN.out j y (by omega) hy
            have hb2 := bl_then hbl hwz'
            have C1 := C0 wz hwz'
            clear C0 HST hbl hwz' HN
            have hi2 : k < xs.length := by rw [HL.out]; exact hlt
            have HI2 := hid hi2
            have hs2 := H1.out
            clear hi2
            by_cases hk0 : 0 < k
            · have HJ : Hid ((out ++ sep ++ x).data.toList = joinK c xs (k + 1)) := by
                unfold Hid
                rw [Joins.data_append, Joins.data_append, HO.out, HD.out, joinK_succ XK.out hk0]
              have k0 : (k : Int) > 0 := by omega
              by_cases hbig : (out ++ sep ++ x).size ≤ 4000
              · have hb3 := hbig
                rw [ByteArray.size_append, ByteArray.size_append] at hb3
                clear hs2
                go_wp2
                go_roundw
                case rel => exact ⟨k + 1, _, by omega, by go_num, rfl, hbig, HJ, HN2, hb2⟩
                case measure => simp [intOf]; omega
              · have hb3 := hbig
                rw [ByteArray.size_append, ByteArray.size_append] at hb3
                have HF2 : Hid (okJ b xs = false) := okJ_long HI2.out (by rw [← HJ.out]; simp only [Array.length_toList, ByteArray.size_data]; omega)
                clear hs2 hbig
                go_wp2
                go_ret2
                refine ⟨?_, hb2⟩
                rw [HK.out, HF2.out, HS.out, joinS_no (by rw [← HB.out]; exact HF2.out)]
                rfl
            · have hkz : Hid (k = 0) := by unfold Hid; omega
              have HJ : Hid ((out ++ x).data.toList = joinK c xs (k + 1)) := by
                unfold Hid
                have := HO.out
                have hx := XK.out
                rw [hkz.out] at this hx ⊢
                rw [Joins.data_append, this, joinK_one hx]; rfl
              have k0 : ¬ (k : Int) > 0 := by omega
              by_cases hbig : (out ++ x).size ≤ 4000
              · have hb3 := hbig
                rw [ByteArray.size_append] at hb3
                clear hs2
                go_wp2
                go_roundw
                case rel => exact ⟨k + 1, _, by omega, by go_num, rfl, hbig, HJ, HN2, hb2⟩
                case measure => simp [intOf]; omega
              · have hb3 := hbig
                rw [ByteArray.size_append] at hb3
                have HF2 : Hid (okJ b xs = false) := okJ_long HI2.out (by rw [← HJ.out]; simp only [Array.length_toList, ByteArray.size_data]; omega)
                clear hs2 hbig
                go_wp2
                go_ret2
                refine ⟨?_, hb2⟩
                rw [HK.out, HF2.out, HS.out, joinS_no (by rw [← HB.out]; exact HF2.out)]
                rfl
          · have HF2 : Hid (okJ b xs = false) := okJ_has XK.out HF.out
            have hb2 := bl_then hbl hwz'
            clear C0 HST hbl hwz' HN
            go_wp2
            go_ret2
            refine ⟨?_, hb2⟩
            rw [HK.out, HF2.out, HS.out, joinS_no (by rw [← HB.out]; exact HF2.out)]
            rfl
        · have hkn : k = n := by omega
          have HF2 : Hid (okJ b xs = true) := by
            have hj := joinK_len (c := c) (xs := xs) (k := n) (by have := HN0.out; omega) (by rw [HL.out]; exact Nat.le_refl _)
            have h2 := HO.out
            rw [hkn] at h2
            rw [← h2] at hj
            simp only [Array.length_toList, ByteArray.size_data] at hj
            have h3 := HL.out
            have h4 := HN0.out
            refine hid (okJ_yes (by omega) (fun j x hj => HN.out j x ?_ hj) (by rw [h3]; omega))
            have := (List.getElem?_eq_some_iff.1 hj).1
            omega
          have HJ : Hid (joinS c xs = out) := joinS_yes (by rw [← HB.out]; exact HF2.out) (by rw [HO.out, HL.out, hkn])
          clear hkn HN HO
          go_wp2
          go_ret2
          refine ⟨?_, hbl⟩
          rw [HK.out, HF2.out, HS.out, HJ.out]
          rfl
  · have HK : Hid (jnOk xs sep = false) := by unfold Hid jnOk; rw [decide_eq_false h1]; rfl
    have HS : Hid (jnS xs sep = ⟨#[]⟩) := by unfold Hid jnS; rw [dif_neg h1]
    have e1 : ((sep.size : Int) != 1) = true := by rw [bne_iff_ne]; omega
    clear h1
    go_enter Try.func19, Try.ntmps19
    go_wp2_with fail
    go_ret2
    exact ⟨by rw [HK.out, HS.out]; rfl, Below.refl _ _⟩
theorem idx_any (c : UInt8) (b : Int) (hb : b = (c.toNat : Int)) (x : ByteArray) : ∃ r : Int, -1 ≤ r ∧ (decide (0 ≤ r) = hasC b x) ∧ ∀ w, Calls Try.prog 31 #[.string x, .int .u8 b] w fun e w' => e = .returned (.int .i64 r) ∧ w = w' := by
  refine ⟨Lib.indexByte x.data.toList c, Lib.indexByte_ge _ _, ?_, fun w => ?_⟩
  · rw [hb]
    have h := has_index (x := x) (c := c)
    cases g : hasC (c.toNat : Int) x
    · rw [g] at h
      exact decide_eq_false (fun h2 => by simpa using h.1 h2)
    · exact decide_eq_true (h.2 g)
  · refine (Try.strings_IndexByte x b w).mono ?_
    rintro e w' ⟨he, hw⟩
    refine ⟨?_, hw.symm⟩
    rw [he, hb]
    simp
set_option maxHeartbeats 2000000 in
set_option maxRecDepth 100000 in
theorem implJoin_any (sep : ByteArray) (w : World) (hA : Sees elStr w w.heap.size A n xs) (hcc : n ≤ cc) (hn : n ≤ 1048576) (hx : ∀ x ∈ xs, x.size ≤ 1048576) (_hp : sep.size ≤ 1048576) :
    Calls Try.prog 21 #[.slice A n cc, .string sep] w fun e w' => e = .returned (.tuple #[.string (jnS xs sep), .bool (jnOk xs sep)]) ∧ Below w.heap.size w w' := by
  have hlen := hA.len
  by_cases hn0 : n = 0
  · have HO : Hid (okJ (sepB sep) xs = false) := by unfold Hid okJ; rw [hlen, hn0]; rfl
    have HK : Hid (jnOk xs sep = false) := by unfold Hid jnOk; rw [HO.out, Bool.and_false]
    have HS : Hid (jnS xs sep = ⟨#[]⟩) := by
      unfold Hid jnS
      split
      · rename_i h
        refine joinS_no ?_
        have := HO.out
        unfold sepB at this
        rw [dif_pos (by omega)] at this
        exact this
      · rfl
    have e2 : ((n : Int) == 0) = true := by rw [hn0]; rfl
    clear hlen hn0
    go_enter Try.func21, Try.ntmps21
    go_wp2_with fail
    go_ret2
    exact ⟨by rw [HK.out, HS.out]; rfl, Below.refl _ _⟩
  · have e2 : ((n : Int) == 0) = false := by rw [beq_eq_false_iff_ne]; omega
    by_cases h1 : sep.size = 1
    · have h0 : 0 < sep.size := by omega
      obtain ⟨c, hc⟩ : ∃ c, c = sep[0]'h0 := ⟨_, rfl⟩
      obtain ⟨b, hb⟩ : ∃ b, b = (c.toNat : Int) := ⟨_, rfl⟩
      have HC := hid hc
      have HB := hid hb
      have HD : Hid (sep.data.toList = [c]) := by unfold Hid; rw [sep_one h1, hc]
      have HK : Hid (jnOk xs sep = okJ b xs) := by unfold Hid jnOk sepB; rw [dif_pos h0, decide_eq_true h1, hb, hc]; rfl
      have HS : Hid (jnS xs sep = joinS c xs) := by unfold Hid jnS; rw [dif_pos h1, hc]
      have e1 : ((sep.size : Int) != 1) = false := by rw [h1]; rfl
      have H1 := hid h1
      have HX := hid hx
      have HL := hid hlen
      have HN0 := hid hn0
      have HSS := hid hA
      have hbz : ((sep[0]'h0).toNat : Int) = b := by rw [hb, hc]
      have HBZ := hid hbz
      clear h1 hc hb hn0 hx hlen hA hbz
      go_enter Try.func21, Try.ntmps21
      go_wp2_with fail
      go_loopw [6, 8, 22] (fun z _ i wr => ∃ (k t : Nat), k ≤ n ∧ i = .int .i64 k ∧ z = .int .i64 t ∧ t ≤ 1048576 + 4000 ∧ (0 < k → t ≤ 4000) ∧ Hid (t = n - 1 + lensK xs k) ∧ Hid (∀ j x, j < k → xs[j]? = some x → hasC b x = false) ∧ wr = w) (fun _ _ i _ => n - (intOf i).toNat)
      case atStart => exact ⟨0, n - 1, Nat.zero_le _, rfl, (by rw [show ((n - 1 : Nat) : Int) = (n : Int) - 1 by have := HN0.out; omega]), by omega, fun h => by omega, rfl, fun j x h => by omega, rfl⟩
      case round =>
        obtain ⟨k, t, hk, rfl, rfl, ht, ht4, HT, HN, rfl⟩ := hrel
        by_cases hlt : k < n
        · obtain ⟨x, hxk⟩ : ∃ x, xs[k]? = some x := ⟨xs[k]'(by rw [HL.out]; exact hlt), List.getElem?_eq_getElem _⟩
          have hxs := HX.out x (List.mem_of_getElem? hxk)
          obtain ⟨bk, off, rfl, _, hcell⟩ := HSS.out.at_ hlt
          have hcx := hcell k x hxk 0 _ rfl
          simp only [elStr, Nat.mul_one, Nat.add_zero] at hcx
          have hk2 := lensK_succ hxk
          have hk3 := lensK_mono (xs := xs) (k := k + 1) (j := n) hlt
          have XK := hid hxk
          clear hcell hxk
          by_cases hbig : 4000 < t + x.size
          · have HF2 : Hid (okJ b xs = false) := okJ_big (by have h1 := HT.out; have h2 := HL.out; rw [h2]; omega)
            have i2 : (4000 : Int) < (t : Int) + (x.size : Int) := by omega
            clear hk2 hk3
            go_wp2_with fail
            go_ret2
            refine ⟨?_, Below.refl _ _⟩
            rw [HK.out, HF2.out, HS.out, joinS_no (by rw [← HB.out]; exact HF2.out)]
            rfl
          · obtain ⟨r, hr1, hr2, HI⟩ := idx_any c b HB.out x
            have i2 : ¬ (4000 : Int) < (t : Int) + (x.size : Int) := by omega
            have HTT : Hid (t + x.size = n - 1 + lensK xs (k + 1)) := by have h1 := HT.out; refine hid ?_; omega
            rw [← HBZ.out] at HI
            have HI2 := hid HI
            clear hk2 hk3 HI
            cases hf : hasC b x
            · have hr3 : ¬ (0 ≤ r) := by rw [hf] at hr2; exact of_decide_eq_false hr2
              have HN2 : Hid (∀ j x, j < k + 1 → xs[j]? = some x → hasC b x = false) := by
                intro j y hj hy
                by_cases hjk : j = k
                · subst hjk
                  rw [XK.out] at hy
                  injection hy with hy
                  rw [← hy]; exact hf
                · exact HN.out j y (by omega) hy
              clear hf hr2 HN
              go_wp2_with fail
              refine (HI2.out _).mono ?_
              rintro e w1 ⟨rfl, rfl⟩
              clear HI2 HT
              go_wp2
              go_roundw
              case rel => exact ⟨k + 1, t + x.size, by omega, by go_num, by go_num, by omega, fun _ => by omega, HTT, HN2, trivial⟩
              case measure => simp [intOf]; omega
            · have hr3 : 0 ≤ r := by rw [hf] at hr2; exact of_decide_eq_true hr2
              have HF2 : Hid (okJ b xs = false) := okJ_has XK.out hf
              clear hf hr2 HN
              go_wp2_with fail
              refine (HI2.out _).mono ?_
              rintro e w1 ⟨rfl, rfl⟩
              clear HI2 HT
              go_wp2
              go_ret2
              refine ⟨?_, Below.refl _ _⟩
              rw [HK.out, HF2.out, HS.out, joinS_no (by rw [← HB.out]; exact HF2.out)]
              rfl
        · have hkn : k = n := by omega
          subst hkn
          have HF2 : Hid (okJ b xs = true) := by
            have h1 := HT.out
            have h3 := HL.out
            have h4 := HN0.out
            refine hid (okJ_yes (by omega) (fun j x hj => HN.out j x ?_ hj) (by rw [h3]; have := ht4 (by omega); omega))
            have := (List.getElem?_eq_some_iff.1 hj).1
            omega
          obtain ⟨bk, off, rfl, hbk, hcell⟩ := HSS.out.at_ (k := 0) (by have := HN0.out; omega)
          have hlj : (joinK c xs xs.length).length ≤ 8096 := by
            have h1 := HT.out
            have h3 := HL.out
            have h4 := HN0.out
            rw [joinK_len (by omega) (Nat.le_refl _), h3]
            have := ht4 (by omega)
            omega
          have hbt : Lib.join (xs.map (·.data.toList)) [c] = joinK c xs xs.length := by unfold joinK byts; rw [List.take_length]
          have hcl : ∀ (j : Nat) x, xs[j]? = some x → wr.cell? ⟨bk, off + j, none⟩ = some (.string x) := fun j x hj => by
            have h := hcell j x hj 0 (.string x) rfl
            simpa [elStr] using h
          have HJ := hid (Try.strings_Join bk off cc xs sep wr hcl hbk (by have := HL.out; omega) (by rw [HL.out]; exact hcc) (by rw [HD.out, hbt]; omega))
          have HR : Hid ((⟨(Lib.join (xs.map (·.data.toList)) sep.data.toList).toArray⟩ : ByteArray) = joinS c xs) := by
            unfold Hid
            rw [HD.out, hbt]
            exact (joinS_yes (by rw [← HB.out]; exact HF2.out) (by simp)).symm
          rw [HL.out, HR.out] at HJ
          clear HN HT hcell hlj hbt ht4 hcl
          go_wp2_with fail
          refine HJ.out.mono ?_
          rintro e w1 ⟨rfl, hb1⟩
          go_wp2
          go_ret2
          refine ⟨?_, hb1⟩
          rw [HK.out, HF2.out, HS.out]
          rfl
    · have HK : Hid (jnOk xs sep = false) := by unfold Hid jnOk; rw [decide_eq_false h1]; rfl
      have HS : Hid (jnS xs sep = ⟨#[]⟩) := by unfold Hid jnS; rw [dif_neg h1]
      have e1 : ((sep.size : Int) != 1) = true := by rw [bne_iff_ne]; omega
      clear h1
      go_enter Try.func21, Try.ntmps21
      go_wp2_with fail
      go_ret2
      exact ⟨by rw [HK.out, HS.out]; rfl, Below.refl _ _⟩
end
end Go.Proofs.Ytjebihhceechiaa
/- Strings in the ledger: equal, marked, held. Conditions: at most 1048576 strings; marks below 2^40. -/
namespace Go.Proofs.Ytjebihhceechiaa
open Go.RowKit
variable {w0 w : World} {L : List Thing} {base base' n c c' : Nat} {A A' : Option Addr} {xs : List ByteArray}
theorem eqT_led (h : Led w0 w L) (i j : Nat) (hi : L[i]? = some (tOwns elStr base 9 (.slice A n c) xs)) (hj : L[j]? = some (tOwns elStr base' 9 (.slice A' n c') xs)) (hl : xs.length = n) (hn : n ≤ 1048576) :
    Calls Try.prog 15 #[.slice A n c, .slice A' n c'] w fun e w' => e = .returned (.bool true) ∧ Led w0 w' L := by
  have h1 := Owns.sees (h.get i hi)
  have h2 := Owns.sees (h.get j hj)
  rw [hl] at h1 h2
  exact (eqStringS_any w h1 h2 (by unfold maxLen; omega)).mono fun _ _ ⟨he, q, hq⟩ => ⟨he, h.step (by rw [hq]; exact bl_drewN (Below.refl _ _) _)⟩
theorem markT_led (h : Led w0 w L) (i : Nat) (hi : L[i]? = some (tOwns elStr base 9 (.slice A n c) xs)) (hl : xs.length = n) (k : Int) (hn : n ≤ 1048576) (hk0 : 0 ≤ k) (hk : k ≤ 1099510579200) :
    Calls Try.prog 16 #[.slice A n c, .int .i64 k] w fun e w' => e = .returned (.int .i64 (k + n)) ∧ Led w0 w' (L.set i (tOwns elStr base 9 (.slice A n c) (smarks k n))) :=
  (markStringS_any k w (h.get i hi) hl hn hk0 hk).mono fun _ _ ⟨he, ho, ht⟩ => ⟨he, h.touch i hi rfl ht ho⟩
theorem heldT_led (h : Led w0 w L) (i : Nat) (k : Int) (hi : L[i]? = some (tOwns elStr base 9 (.slice A n c) (smarks k n))) (hn : n ≤ 1048576) (hk0 : 0 ≤ k) (hk : k ≤ 1099510579200) :
    Calls Try.prog 17 #[.slice A n c, .int .i64 k] w fun e w' => e = .returned (.int .i64 (k + n)) ∧ Led w0 w' L :=
  (heldStringS_any k w (by have := Owns.sees (h.get i hi); rw [smarks_len] at this; exact this) hn hk0 hk).mono fun _ _ ⟨he, hw⟩ => ⟨he, h.step hw⟩
end Go.Proofs.Ytjebihhceechiaa
/- szStringS, walked: it takes the lengths off a number, -1 if that is too small. Conditions: the number lies in 0 .. 1048576. -/
namespace Go.Proofs.Ytjebihhceechiaa
open Go.RowKit
def lessI (left : Int) (t : Nat) : Int := if (t : Int) ≤ left then left - t else -1
def sumTo (xs : List ByteArray) (k : Nat) : Nat := ((xs.take k).map ByteArray.size).sum
def strTot (xs : List ByteArray) : Nat := xs.length + sumTo xs xs.length
theorem sumTo_succ {xs : List ByteArray} {k : Nat} {x : ByteArray} (h : xs[k]? = some x) : sumTo xs (k + 1) = sumTo xs k + x.size := by
  unfold sumTo
  obtain ⟨hk, hx⟩ := List.getElem?_eq_some_iff.1 h
  rw [List.take_succ_eq_append_getElem hk, hx, List.map_append, List.sum_append]; simp
theorem sumTo_mono {xs : List ByteArray} {j k : Nat} (h : j ≤ k) : sumTo xs j ≤ sumTo xs k := by
  unfold sumTo
  obtain ⟨d, rfl⟩ := Nat.exists_eq_add_of_le h
  rw [List.take_add, List.map_append, List.sum_append]; omega
theorem size_le_tot {xs : List ByteArray} {x : ByteArray} (h : x ∈ xs) : x.size ≤ strTot xs := by
  obtain ⟨k, hk, e⟩ := List.mem_iff_getElem.1 h
  have h1 := sumTo_succ (xs := xs) (k := k) (x := x) (by rw [List.getElem?_eq_getElem hk, e])
  have h2 := sumTo_mono (xs := xs) (j := k + 1) (k := xs.length) hk
  unfold strTot; omega
theorem lessI_neg {left : Int} {t : Nat} (h : left < t) : lessI left t = -1 := by unfold lessI; rw [if_neg (by omega)]
theorem lessI_pos {left : Int} {t : Nat} (h : (t : Int) ≤ left) : lessI left t = left - t := by unfold lessI; rw [if_pos h]
set_option maxRecDepth 100000 in
theorem szStringS_any {B n c : Nat} {A : Option Addr} {xs : List ByteArray} (left : Int) (w : World) (hA : Sees elStr w B A n xs) (hn : n ≤ maxLen) (hx : ∀ x ∈ xs, x.size ≤ maxLen) (h0 : 0 ≤ left) (hl : left ≤ 1048576) :
    Calls Try.prog 18 #[.slice A n c, .int .i64 left] w fun e w' => e = .returned (.int .i64 (lessI left (strTot xs))) ∧ w = w' := by
  have hlen := hA.len
  unfold maxLen at hn hx
  by_cases hs : (n : Int) ≤ left
  · have HL := hid hlen
    clear hlen
    have e0 : decide (left - (n : Int) < 0) = false := by simp; omega
    go_enter Try.func18, Try.ntmps18
    go_wp2
    clear e0
    go_loop [1, 5] (fun l i => ∃ (k : Nat) (r : Int), k ≤ n ∧ i = .int .i64 k ∧ l = .int .i64 r ∧ 0 ≤ r ∧ r ≤ 1048576 ∧ Hid (r = left - n - sumTo xs k)) (fun _ i => n - (intOf i).toNat)
    case atStart => exact ⟨0, left - n, Nat.zero_le _, rfl, rfl, by omega, by omega, by unfold Hid sumTo; simp⟩
    case round =>
      obtain ⟨k, r, hk, rfl, rfl, hr0, hr1, hr⟩ := hrel
      by_cases hlt : k < n
      · obtain ⟨b, o, rfl, _, hc⟩ := hA.at_ hlt
        obtain ⟨x, hxk⟩ : ∃ x, xs[k]? = some x := ⟨xs[k]'(by rw [HL.out]; exact hlt), List.getElem?_eq_getElem _⟩
        have hcx := hc k x hxk 0 _ rfl
        simp only [elStr, Nat.mul_one, Nat.add_zero] at hcx
        have hxs : x.size ≤ 2 ^ 63 - 1 := hx x (List.mem_of_getElem? hxk)
        have hsucc := sumTo_succ hxk
        have hmono := sumTo_mono (xs := xs) (j := k + 1) (k := n) hlt
        clear hc hxk
        by_cases hneg : r - (x.size : Int) < 0
        · have HN : Hid (lessI left (strTot xs) = -1) := lessI_neg (by have := hr.out; have := HL.out; unfold strTot; rw [this]; omega)
          clear hsucc hmono
          go_wp2
          go_ret
          exact ⟨by rw [HN.out]; rfl, rfl⟩
        · have HR : Hid (r - (x.size : Int) = left - n - sumTo xs (k + 1)) := by have := hr.out; unfold Hid; omega
          clear hsucc hmono hr
          go_wp2
          go_round
          case rel => exact ⟨k + 1, _, by omega, by go_num, rfl, by omega, by omega, HR⟩
          case measure => simp [intOf]; omega
      · have HR : Hid (lessI left (strTot xs) = r) := by
          obtain rfl : k = n := by omega
          have h1 := hr.out; have h2 := HL.out
          refine hid ?_
          rw [lessI_pos (by unfold strTot; rw [h2]; omega)]; unfold strTot; rw [h2]; omega
        clear hr
        go_wp2
        go_ret
        exact ⟨by rw [HR.out]; rfl, rfl⟩
  · have HN : Hid (lessI left (strTot xs) = -1) := lessI_neg (by unfold strTot; omega)
    clear hlen
    go_enter Try.func18, Try.ntmps18
    go_wp2
    go_ret
    exact ⟨by rw [HN.out]; rfl, rfl⟩
end Go.Proofs.Ytjebihhceechiaa
/- How an argument that can be read is opened: strings, slices, networks, routes. Conditions: none. -/
namespace Go.Proofs.Ytjebihhceechiaa
open Go.ChangeShapes Go.WideShapes Go.ChangeAt Go.RowKit Go.Deep
theorem i64_bd {n : Int} (h : (Lit.int .i64 n).wf = true) : -9223372036854775808 ≤ n ∧ n ≤ 9223372036854775807 := by
  simp [Lit.wf, IntKind.min, IntKind.max, IntKind.signed, IntKind.bits] at h; omega
section
variable {H : Type} {enc : TypeId × Value → H} {P : Program} {W : World} {spare : Nat → Bool} {held : Bool}
/-- A slice whose elements' cells are known. -/
theorem open_sl {α : Type} (E : El α) {t e : TypeId} {fuel : Nat} {cs : List Value} {x : DataW H × List MemPlace} (good : α → Prop) (ht : P.underlying t = some (.slice e)) (hsz : P.cellsOf e = E.sz)
    (hel : ∀ fuel cs y, DataW.trod enc P W 0 spare held fuel e cs = some y → ∃ a, cs = E.cells a ∧ good a)
    (h : DataW.trod enc P W 0 spare held fuel t cs = some x) :
    ∃ A n c xs, cs = [.slice A n c] ∧ n ≤ c ∧ c ≤ maxLen ∧ Sees E W W.heap.size A n xs ∧ ∀ a ∈ xs, good a := by
  rcases open_slice ht h with ⟨h0, _⟩ | ⟨a, len, cap, m, k, D, Pl, hcs, _, hl, hm, hmm, _, hi⟩
  · exact ⟨none, 0, 0, [], h0, Nat.le_refl _, Nat.zero_le _, Sees.nil _ _ _ _, fun _ h => by cases h⟩
  · have hlm : len ≤ m := by rw [hmm]; split <;> omega
    have key : ∀ i : Nat, i < len → ∃ y : α, good y ∧ ∀ j u, (E.cells y)[j]? = some u → W.cell? (a.add (i * E.sz + j)) = some u := by
      intro i hlt
      obtain ⟨cs', hc, htr⟩ := hi i (by omega)
      obtain ⟨y, rfl, hg⟩ := hel _ _ _ htr
      obtain ⟨_, hlen, hat⟩ := World.cells?_some hc
      refine ⟨y, hg, fun j u hu => ?_⟩
      have hj : j < P.cellsOf e := by rw [hsz, ← E.len y]; exact (List.getElem?_eq_some_iff.1 hu).1
      have := hat j hj
      rw [add_add, hsz] at this
      rw [this, hu]
    rcases Nat.eq_zero_or_pos len with h0 | h0
    · subst h0
      exact ⟨some a, 0, cap, [], hcs, hl, hm, Sees.nil _ _ _ _, fun _ h => by cases h⟩
    · have hspot : a.spot = none := by
        obtain ⟨y, _, hy⟩ := key 0 h0
        have hpos := E.pos
        have hlen := E.len y
        have h1 := hy 0 ((E.cells y)[0]'(by omega)) (List.getElem?_eq_getElem (by omega))
        simp only [Nat.zero_mul, Nat.zero_add] at h1
        rw [show a.add 0 = a by simp [Addr.add]] at h1
        unfold World.cell? at h1
        split at h1
        · split at h1
          · cases h1
          · rename_i hs; simpa using hs
        · cases h1
      obtain ⟨y0, _, _⟩ := key 0 h0
      have : Inhabited α := ⟨y0⟩
      obtain ⟨f, hf⟩ := choose_lt key
      refine ⟨some a, len, cap, (List.range len).map f, hcs, hl, hm, ⟨by simp, .inr ⟨a.block, a.off, by cases a; simp_all, ?_, ?_⟩⟩, ?_⟩
      · obtain ⟨_, hy⟩ := hf 0 h0
        have hpos := E.pos
        have hlen := E.len (f 0)
        have h1 := hy 0 ((E.cells (f 0))[0]'(by omega)) (List.getElem?_eq_getElem (by omega))
        have := World.block_lt_of_cell? W _ h1
        simp only [Addr.add] at this
        split at this <;> simpa using this
      · intro k x hx j u hu
        have hk : k < len := by have := (List.getElem?_eq_some_iff.1 hx).1; simpa using this
        have hx' : f k = x := by simpa [List.getElem?_map, List.getElem?_range, hk] using hx
        have := (hf k hk).2 j u (by rw [hx']; exact hu)
        rw [← this]
        unfold Addr.add
        split
        · rename_i h00; rw [Nat.add_assoc, h00, Nat.add_zero]; cases a; simp_all
        · rw [Nat.add_assoc]
      · intro x hx
        obtain ⟨i, hi, rfl⟩ := List.mem_map.1 hx
        exact (hf i (by simpa using hi)).1
/-- A slice that came in. -/
def SlArg {α : Type} (E : El α) (W : World) (A : Option Addr) (n c : Nat) (xs : List α) (good : α → Prop) : Prop := n ≤ c ∧ c ≤ maxLen ∧ Sees E W W.heap.size A n xs ∧ ∀ a ∈ xs, good a
theorem open_sl_val {α : Type} (E : El α) {t e : TypeId} {base : Nat} {v : Value} {d : DataW H} {p : List MemPlace} (good : α → Prop) (ht : P.underlying t = some (.slice e)) (hsz : P.cellsOf e = E.sz)
    (hel : ∀ fuel cs y, DataW.trod enc P W 0 spare held fuel e cs = some y → ∃ a, cs = E.cells a ∧ good a)
    (hv : Value.okWide P W .any base t v) (h : DataW.Trod enc P W 0 spare held t v d p) : ∃ A n c xs, v = .slice A n c ∧ SlArg E W A n c xs good := by
  obtain ⟨a, len, cap, rfl⟩ := okWide_slice ht hv
  obtain ⟨fuel, h⟩ := h
  obtain ⟨A, n, c, xs, e, h1, h2, h3, h4⟩ := open_sl E good ht hsz hel h
  exact ⟨A, n, c, xs, by simpa [Value.cells] using e, h1, h2, h3, h4⟩
theorem el_int {e : TypeId} (he : P.underlying e = some (.int .i64)) (fuel : Nat) (cs : List Value) (y : DataW H × List MemPlace) (h : DataW.trod enc P W 0 spare held fuel e cs = some y) :
    ∃ a, cs = elInt.cells a ∧ (-9223372036854775808 ≤ a ∧ a ≤ 9223372036854775807) := by
  obtain ⟨n, rfl, _, hw⟩ := DataW.trod_int he h
  exact ⟨n, rfl, i64_bd hw⟩
theorem el_str {e : TypeId} (he : P.underlying e = some .string) (fuel : Nat) (cs : List Value) (y : DataW H × List MemPlace) (h : DataW.trod enc P W 0 spare held fuel e cs = some y) :
    ∃ a, cs = elStr.cells a ∧ a.size ≤ maxLen := by
  obtain ⟨n, rfl, _, hw⟩ := DataW.trod_string he h
  exact ⟨n, rfl, hw⟩
end
end Go.Proofs.Ytjebihhceechiaa
/- FnExactJoinStrings, walked. Conditions: none. -/
namespace Go.Proofs.Ytjebihhceechiaa
open Go.RowKit
/-- A list of strings that came in. -/
theorem cellsT : Try.prog.cellsOf 9 = elStr.sz := by kernel_rfl
set_option maxHeartbeats 2000000 in
set_option maxRecDepth 100000 in
theorem walkJoinStrings (w : World) {A : Option Addr} {n cc : Nat} {xs : List ByteArray} {sep : ByteArray} (hA : SlArg elStr w A n cc xs (fun a => a.size ≤ maxLen)) (h1 : sep.size ≤ maxLen) : Calls Try.prog 7 #[.slice A n cc, .string sep] w fun e w' => e = .returned (.bool true) ∧ Below w.heap.size w w' := by
  obtain ⟨hcc, hcm, hS, hx⟩ := hA
  have hlen := hS.len
  unfold maxLen at h1
  by_cases hp : sep.size ≤ 1048576
  · by_cases ht : strTot xs ≤ 1048576
    · have hz : Hid (lessI 1048576 (strTot xs) = 1048576 - (strTot xs : Int)) := lessI_pos (by omega)
      have hn : n ≤ 1048576 := by unfold strTot at ht; omega
      have HX : Hid (∀ x ∈ xs, x.size ≤ 1048576) := fun x hx => by have := size_le_tot hx; omega
      have HZ := hid (szStringS_any (c := cc) 1048576 w hS (by unfold maxLen; omega) hx (by decide) (by decide))
      obtain ⟨s, hs⟩ : ∃ s, jnS xs sep = s := ⟨_, rfl⟩
      obtain ⟨k, hk⟩ : ∃ k, jnOk xs sep = k := ⟨_, rfl⟩
      have P1 := fun (w' : World) (A : Option Addr) (cc : Nat) (h : Sees elStr w' w'.heap.size A n xs) => specJoin_any (cc := cc) sep w' h hn HX.out hp
      have P2 := fun (w' : World) (A : Option Addr) (cc : Nat) (h : Sees elStr w' w'.heap.size A n xs) (hc : n ≤ cc) => implJoin_any (cc := cc) sep w' h hc hn HX.out hp
      rw [hs, hk] at P1 P2
      have HP1 := hid P1
      have HP2 := hid P2
      have HS := hid hS
      have HL := hid hlen
      have hle : (strTot xs : Int) ≤ 1048576 := by omega
      rw [hz.out] at HZ
      generalize (strTot xs) = T at *
      clear hs hk P1 P2 hS hx hlen hz ht HX
      go_enter Try.func7, Try.ntmps7
      go_wp2_with fail
      refine HZ.out.mono ?_
      rintro e w' ⟨rfl, rfl⟩
      have i0 : ¬ (1048576 - (T : Int) < 0) := by omega
      go_wp2_with fail
      refine (toStringS_any _ HS.out hn).mono ?_
      rintro e w1 ⟨v1, rfl, ho1, hb1⟩
      obtain ⟨A1, c1, rfl, hc1, _, hs1⟩ := ho1.form
      rw [HL.out] at hs1
      have H1 := hid ((Led.nil w).owns hb1 ho1)
      rw [HL.out]
      clear hb1 ho1
      go_wp2_with fail
      refine (HP1.out w1 A1 c1 hs1).mono ?_
      rintro e w2 ⟨rfl, hb2⟩
      have H2 := hid (H1.out.step hb2)
      have HS2 := hid (HS.out.grow H2.out.bl)
      clear hb2 H1 hs1
      go_wp2_with fail
      refine (toStringS_any _ HS2.out hn).mono ?_
      rintro e w3 ⟨v3, rfl, ho3, hb3⟩
      obtain ⟨A3, c3, rfl, hc3, _, hs3⟩ := ho3.form
      rw [HL.out] at hs3 hc3
      have H3 := hid (H2.out.owns hb3 ho3)
      rw [HL.out]
      clear hb3 ho3 H2
      go_wp2_with fail
      refine (HP2.out w3 A3 c3 hs3 hc3).mono ?_
      rintro e w4 ⟨rfl, hb4⟩
      have H4 := hid (H3.out.step hb4)
      have HS4 := hid (HS.out.grow H4.out.bl)
      clear hb4 H3 hs3 HS2
      cases k
      all_goals
        go_wp2_with fail
        refine (toStringS_any _ HS4.out hn).mono ?_
        rintro e w5 ⟨v5, rfl, ho5, hb5⟩
        obtain ⟨A5, c5, rfl, hc5, _, hs5⟩ := ho5.form
        have H5 := hid (H4.out.owns hb5 ho5)
        rw [HL.out] at H5 ⊢
        clear hb5 ho5 H4 hs5
        go_wp2_with fail
        refine (eqT_led H5.out 1 0 rfl rfl HL.out hn).mono ?_
        rintro e w6 ⟨rfl, h6⟩
        go_wp2_with fail
        go_ret
        exact ⟨rfl, h6.bl⟩
    · have hz : lessI 1048576 (strTot xs) = -1 := lessI_neg (by omega)
      have HZ := hid (szStringS_any (c := cc) 1048576 w hS (by unfold maxLen at hcm ⊢; omega) hx (by decide) (by decide))
      rw [hz] at HZ
      clear hz ht
      go_enter Try.func7, Try.ntmps7
      go_wp2_with fail
      refine HZ.out.mono ?_
      rintro e w' ⟨rfl, rfl⟩
      go_wp2_with fail
      go_ret
      exact ⟨rfl, Below.refl _ _⟩
  · go_enter Try.func7, Try.ntmps7
    go_wp2
    go_ret
    exact ⟨rfl, Below.refl _ _⟩
end Go.Proofs.Ytjebihhceechiaa
/- FnExactJoinStrings: the law returns true at every input; memory that was there reads as it did. Conditions: none. -/
namespace Go.Proofs.Ytjebihhceechiaa.fnExactJoinStrings
open Go.ChangeShapes Go.WideShapes Go.ChangeAt Go.RowKit Go.Deep
open Go.ChangeMaps (open_string shut_string)
open Go.RowKit
theorem own : ownKnob Try.prog.godebug = none := by kernel_rfl
theorem laidOut : laidOutB Try.prog = true := by kernel_rfl
theorem reads : Try.f7.params.toList.all (fun t => Try.prog.readableRec t && decide (t < Try.prog.types.size)) = true := by kernel_rfl
theorem plain {H : Type} (ds : List (DataW H)) (h : ds.length = Try.f7.params.toList.length) : (Rows.fnExactJoinStringsSpec.fn H ds).results = [.lit (.bool true)] ∧ (Rows.fnExactJoinStringsSpec.fn H ds).args = ds ∧ (Rows.fnExactJoinStringsSpec.fn H ds).vars = [] := by
  rw [Try.params7] at h
  match ds, h with
  | [d0, d1], _ => exact ⟨rfl, rfl, rfl⟩
set_option maxRecDepth 100000 in
theorem lifted (os : Os) (started : os.Started) (H : Type) (enc : TypeId × Value → H) :
    ReturnsInHanded {} Try.checked os 7 .any (Rows.fnExactJoinStringsSpec.pre6 enc Try.prog Try.f7 Rows.fnExactJoinStringsRow.domain false) (Rows.fnExactJoinStringsSpec.post enc Try.prog Try.f7 false true false false) := by
  refine returnsInHanded_of_change (C := Try.checked) own started (by kernel_rfl) Try.func7
    (ChangeSpec.witness6 (enc := enc) (C := Try.checked) false ⟨#[], #[.slice none 0 0, .string ByteArray.empty], []⟩ 8 (by kernel_rfl) (by kernel_rfl) (by kernel_rfl) (by kernel_rfl)) ?_
  intro W base args ds gs before hval0 hW _ _
  have hval : ∀ (j : Nat) t v, Try.f7.params[j]? = some t → args[j]? = some v → Value.okWide Try.prog W .any base t v := hval0
  refine law_contract (P := Try.prog) laidOut reads rfl Try.underlying4 rfl plain W args ds gs before hW (fun p hA => ?_)
  clear hval0 hW
  rw [Try.params7] at hA hval
  obtain ⟨v0, vs0, d0, ds0, p0, q0, hargs, rfl, rfl, h0, r0⟩ := trodAll_cons hA
  obtain ⟨v1, vs1, d1, ds1, p1, q1, rfl, rfl, rfl, h1, r1⟩ := trodAll_cons r0
  obtain ⟨rfl, rfl, rfl⟩ := trodAll_nil r1
  obtain rfl : args = #[v0, v1] := by cases args; simp_all
  obtain ⟨A0, n0, c0, x0, rfl, w0⟩ := open_sl_val elStr _ Try.underlying27 cellsT (el_str Try.underlying9) (hval 0 27 v0 rfl rfl) h0
  obtain ⟨a1, rfl, _, _, w1⟩ := open_string Try.underlying9 (hval 1 9 v1 rfl rfl) h1
  exact walkJoinStrings W w0 w1
theorem proved : Rows.FnExactJoinStringsSaid :=
  OpenClaim.holds_of_wide 7 Try.f7 rfl rfl rfl rfl rfl rfl rfl ⟨rfl, rfl, rfl, rfl, rfl⟩ rfl rfl rfl rfl rfl (by kernel_rfl) Try.func7 (by kernel_rfl)
    (of_decide_eq_true (by kernel_rfl)) (by unfold Func.isWrapper; first | (rw [if_pos (by decide +kernel)]; kernel_rfl) | (rw [if_neg (by decide +kernel)]; exact ⟨rfl, rfl⟩))
    (fun os started H enc _ => lifted os started H enc)
#print axioms proved
end Go.Proofs.Ytjebihhceechiaa.fnExactJoinStrings
