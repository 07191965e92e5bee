/- Lemmas and walks that the claim rests on, laid together. Conditions: none. -/
import Derived.Test.YtjebihhceechiaaZ6bf9cf2a464d
import Derived.Shelf.Strings.Builder1
import Derived.Shelf.Strings.Builder2
import Derived.Shelf.Strings.OnBuilder
import Derived.Shelf.Small.Strs
import Derived.Shelf.Strings.Search1
import Derived.Test.YtjebihhceechiaaProg
import Derived.Test.YtjebihhceechiaaRows
import Derived.Laws.IdiomStrings
/- SplitString of both sides, walked. Conditions: the string has at most 1048576 bytes. -/
namespace Go.Proofs.Ytjebihhceechiaa
open Go.RowKit
set_option maxHeartbeats 2000000 in
set_option maxRecDepth 100000 in
theorem l1Split_any (s : ByteArray) (b : Int) (w : World) (hs : s.size ≤ 1048576) :
    Calls Try.prog 28 #[.string s, .int .u8 b] w fun e w' => ∃ v, e = .returned v ∧ Owns elStr w' w.heap.size 9 v (splA s b) ∧ Below w.heap.size w w' := by
  have hS := (Led.nil w).empty elStr 9 w.heap.size rfl w.heap.size (Nat.le_refl _)
  obtain ⟨i0, hi, hz0, hz1, hz2⟩ := info_parts str_info
  have HS : Hid (Led w (w.alloc (.cells #[] 9)) [tOwns elStr w.heap.size 9 (.slice (some ⟨w.heap.size, 0, none⟩) 0 0) (splT s b 0).1]) := hS
  have HA : Hid (splA s b = (splT s b s.size).1 ++ [s.extract (splT s b s.size).2 s.size]) := rfl
  clear hS
  go_enter Try.func28, Try.ntmps28
  go_wp2_with fail
  go_loopw [5, 6, 7] (fun v f i wr => ∃ k m : Nat, k ≤ s.size ∧ m ≤ k ∧ i = .int .i64 k ∧ f = .int .i64 m ∧ Hid (m = (splT s b k).2) ∧ Hid (Led w wr [tOwns elStr w.heap.size 9 v (splT s b k).1])) (fun _ _ i _ => s.size - (intOf i).toNat)
  case atStart => exact ⟨0, 0, Nat.zero_le _, Nat.le_refl _, rfl, rfl, rfl, HS⟩
  case round =>
    clear HS
    obtain ⟨k, m, hk, hm, rfl, rfl, HM, HS⟩ := hrel
    have hbd := splT_bd (s := s) (b := b) k
    obtain ⟨A3, c3, rfl, _⟩ := HS.out.form 0 rfl
    by_cases hlt : k < s.size
    · by_cases hb : (s[k].toNat : Int) = b
      · have HN : Hid (splT s b (k + 1) = ((splT s b k).1 ++ [s.extract m k], k + 1)) := by have := splT_yes hlt hb; rw [← HM.out] at this; exact this
        have hb2 : ((s[k].toNat : Int) == b) = true := by rw [hb]; exact beq_self_eq_true b
        have HS2 := hid (HS.out.blk_ wr.heap.size rfl 9 #[.string (s.extract m k)])
        clear hb HM
        go_wp2_with (first
          | (at_builtin; refine wpList_append_led rfl _ _ 27 rfl HS2.out 1 rfl Try.underlying27 hi hz0 hz1 (by rw [hz2]; decide) rfl rfl rfl (show Sees elStr _ _ _ 1 [s.extract m k] from sees_new elStr _ _ _ _ rfl) (by omega) HS2.out.bl.size ?_)
          | go_in)
        intro A2 c2 w7 hS5
        have hS6 := hid (hS5.drop 1)
        have HM2 : Hid (k + 1 = (splT s b (k + 1)).2) := by rw [HN.out]; rfl
        clear HS2 hS5
        go_wp2
        go_roundw
        case rel => exact ⟨k + 1, k + 1, by omega, Nat.le_refl _, by go_num, by go_num, HM2, by rw [HN.out]; exact hS6⟩
        case measure => simp [intOf]; omega
      · have HN : Hid (splT s b (k + 1) = splT s b k) := splT_no hlt hb
        have hb2 : ((s[k].toNat : Int) == b) = false := by rw [beq_eq_false_iff_ne]; exact hb
        clear hb
        go_wp2
        go_roundw
        case rel => exact ⟨k + 1, m, by omega, by omega, by go_num, rfl, by rw [HN.out]; exact HM, by rw [HN.out]; exact HS⟩
        case measure => simp [intOf]; omega
    · have hkm : k = s.size := by omega
      subst hkm
      have HS2 := hid (HS.out.blk_ wr.heap.size rfl 9 #[.string (s.extract m s.size)])
      go_wp2_with (first
        | (at_builtin; refine wpList_append_led rfl _ _ 27 rfl HS2.out 1 rfl Try.underlying27 hi hz0 hz1 (by rw [hz2]; decide) rfl rfl rfl (show Sees elStr _ _ _ 1 [s.extract m s.size] from sees_new elStr _ _ _ _ rfl) (by omega) HS2.out.bl.size ?_)
        | go_in)
      intro A2 c2 w7 hS5
      have hS6 := hid (hS5.drop 1)
      clear HS2 hS5
      go_wp2
      go_ret
      refine ⟨_, rfl, ?_, hS6.out.bl⟩
      rw [HA.out, ← HM.out]
      exact hS6.out.own 0 rfl
/-- The byte of a separator. -/
def sepB (sep : ByteArray) : Int := if h : 0 < sep.size then (sep[0].toNat : Int) else 0
def splOk (s sep : ByteArray) : Bool := decide (s.size ≤ 4000) && decide (sep.size = 1)
def splR (s sep : ByteArray) : List ByteArray := if splOk s sep then splA s (sepB sep) else []
set_option maxHeartbeats 2000000 in
set_option maxRecDepth 100000 in
theorem specSplit_any (s sep : ByteArray) (w : World) (hs : s.size ≤ 1048576) (_hp : sep.size ≤ 1048576) :
    Calls Try.prog 13 #[.string s, .string sep] w fun e w' => ∃ v, e = .returned (.tuple #[v, .bool (splOk s sep)]) ∧ Owns elStr w' w.heap.size 9 v (splR s sep) ∧ Below w.heap.size w w' := by
  by_cases h1 : sep.size = 1
  · by_cases h2 : s.size ≤ 4000
    · have h0 : 0 < sep.size := by omega
      have HO : Hid (splOk s sep = true) := by unfold Hid splOk; rw [decide_eq_true h1, decide_eq_true h2]; rfl
      have HB : Hid (sepB sep = ((sep[0]'h0).toNat : Int)) := by unfold Hid sepB; rw [dif_pos h0]
      have HR : Hid (splR s sep = splA s ((sep[0]'h0).toNat : Int)) := by unfold Hid splR; rw [HO.out, HB.out]; rfl
      rw [HO.out]
      have e1 : ((sep.size : Int) != 1) = false := by rw [h1]; rfl
      clear h1
      go_enter Try.func13, Try.ntmps13
      go_wp2_with fail
      refine (l1Split_any s _ _ hs).mono ?_
      rintro e w1 ⟨v, rfl, ho, hb⟩
      go_wp2_with fail
      go_ret2
      exact ⟨_, rfl, by rw [HR.out]; exact ho, hb⟩
    · have HO : Hid (splOk s sep = false) := by unfold Hid splOk; rw [decide_eq_false h2]; rfl
      have HR : Hid (splR s sep = []) := by unfold Hid splR; rw [HO.out]; rfl
      rw [HO.out]
      have e1 : ((sep.size : Int) != 1) = false := by rw [h1]; rfl
      clear h1
      have hS := (Led.nil w).empty elStr 9 w.heap.size rfl w.heap.size (Nat.le_refl _)
      have HS := hid hS
      clear hS
      go_enter Try.func13, Try.ntmps13
      go_wp2_with fail
      go_ret2
      exact ⟨_, rfl, by rw [HR.out]; exact HS.out.own 0 rfl, HS.out.bl⟩
  · have HO : Hid (splOk s sep = false) := by unfold Hid splOk; rw [decide_eq_false h1]; simp
    have HR : Hid (splR s sep = []) := by unfold Hid splR; rw [HO.out]; rfl
    rw [HO.out]
    have e1 : ((sep.size : Int) != 1) = true := by rw [bne_iff_ne]; omega
    have hS := (Led.nil w).empty elStr 9 w.heap.size rfl w.heap.size (Nat.le_refl _)
    have HS := hid hS
    clear hS h1
    go_enter Try.func13, Try.ntmps13
    go_wp2_with fail
    go_ret2
    exact ⟨_, rfl, by rw [HR.out]; exact HS.out.own 0 rfl, HS.out.bl⟩
set_option maxHeartbeats 2000000 in
set_option maxRecDepth 100000 in
theorem implSplit_any (s sep : ByteArray) (w : World) (hs : s.size ≤ 1048576) (_hp : sep.size ≤ 1048576) :
    Calls Try.prog 14 #[.string s, .string sep] w fun e w' => ∃ v, e = .returned (.tuple #[v, .bool (splOk s sep)]) ∧ Owns elStr w' w.heap.size 9 v (splR s sep) ∧ Below w.heap.size w w' := by
  by_cases h1 : sep.size = 1
  · by_cases h2 : s.size ≤ 4000
    · have h0 : 0 < sep.size := by omega
      have HO : Hid (splOk s sep = true) := by unfold Hid splOk; rw [decide_eq_true h1, decide_eq_true h2]; rfl
      obtain ⟨b, hbv⟩ : ∃ b, b = ((sep[0]'h0).toNat : Int) := ⟨_, rfl⟩
      have HBV := hid hbv
      have HB : Hid (sepB sep = b) := by unfold Hid sepB; rw [dif_pos h0, hbv]
      have HR : Hid (splR s sep = splA s b) := by unfold Hid splR; rw [HO.out, HB.out]; rfl
      rw [HO.out]
      have e1 : ((sep.size : Int) != 1) = false := by rw [h1]; rfl
      clear h1
      have hS := (Led.nil w).empty elStr 9 w.heap.size rfl w.heap.size (Nat.le_refl _)
      obtain ⟨i0, hi, hz0, hz1, hz2⟩ := info_parts str_info
      have HS : Hid (Led w (w.alloc (.cells #[] 9)) [tOwns elStr w.heap.size 9 (.slice (some ⟨w.heap.size, 0, none⟩) 0 0) (splT s b 0).1]) := hS
      have HA : Hid (splA s b = (splT s b s.size).1 ++ [s.extract (splT s b s.size).2 s.size]) := rfl
      clear hS hbv
      go_enter Try.func14, Try.ntmps14
      go_wp2_with fail
      go_loopw [6, 7, 8] (fun v f i wr => ∃ k m : Nat, k ≤ s.size ∧ m ≤ k ∧ i = .int .i64 k ∧ f = .int .i64 m ∧ Hid (m = (splT s b k).2) ∧ Hid (Led w wr [tOwns elStr w.heap.size 9 v (splT s b k).1])) (fun _ _ i _ => s.size - (intOf i).toNat)
      case atStart => exact ⟨0, 0, Nat.zero_le _, Nat.le_refl _, rfl, rfl, rfl, HS⟩
      case round =>
        clear HS
        obtain ⟨k, m, hk, hm, rfl, rfl, HM, HS⟩ := hrel
        have hbd := splT_bd (s := s) (b := b) k
        obtain ⟨A3, c3, rfl, _⟩ := HS.out.form 0 rfl
        by_cases hlt : k < s.size
        · have i1 : (k : Int) < (s.size : Int) := by omega
          by_cases hb : (s[k].toNat : Int) = b
          · have HN : Hid (splT s b (k + 1) = ((splT s b k).1 ++ [s.extract m k], k + 1)) := by have := splT_yes hlt hb; rw [← HM.out] at this; exact this
            have hb2 : ((s[k].toNat : Int) == (sep[0].toNat : Int)) = true := by rw [hb, HBV.out]; exact beq_self_eq_true _
            clear hb HM
            go_wp2_with fail
            refine region_cls (by kernel_rfl) (by kernel_rfl) ?_
            repeat (first
              | ((with_reducible refine quiet_pos ?_ (fun K hK => ?_))
                 · rfl
                 apply Exists.intro
                 refine ⟨fun w' hw' => ?_, ?_⟩
                 · go_simp
                   with_reducible rfl
                 simp only [Act.put, List.setIfInBounds_toArray, List.set_cons_zero, List.set_cons_succ]
                 refine hK _ ?_; clear hK K)
              | ((with_reducible refine quiet_neg ?_ (fun K hK => ?_))
                 · rfl
                 simp only [Act.put, List.setIfInBounds_toArray, List.set_cons_zero, List.set_cons_succ]
                 refine hK _ ?_; clear hK K))
            with_reducible refine wpQuiet_nil ?_
            intro wz hwz'
            have HS2 := hid (HS.out.step hwz')
            have HS3 := hid (HS2.out.blk_ wz.heap.size rfl 9 #[.string (s.extract m k)])
            clear hwz'
            go_wp2_with (first
              | (at_builtin; refine wpList_append_led rfl _ _ 27 rfl HS3.out 1 rfl Try.underlying27 hi hz0 hz1 (by rw [hz2]; decide) rfl rfl rfl (show Sees elStr _ _ _ 1 [s.extract m k] from sees_new elStr _ _ _ _ rfl) (by omega) HS3.out.bl.size ?_)
              | go_in)
            intro A2 c2 w7 hS5
            have hS6 := hid (hS5.drop 1)
            have HM2 : Hid (k + 1 = (splT s b (k + 1)).2) := by rw [HN.out]; rfl
            clear HS2 HS3 hS5
            go_wp2
            go_roundw
            case rel => exact ⟨k + 1, k + 1, by omega, Nat.le_refl _, by go_num, by go_num, HM2, by rw [HN.out]; exact hS6⟩
            case measure => simp [intOf]; omega
          · have HN : Hid (splT s b (k + 1) = splT s b k) := splT_no hlt hb
            have hb2 : ((s[k].toNat : Int) == (sep[0].toNat : Int)) = false := by rw [beq_eq_false_iff_ne, ← HBV.out]; exact hb
            clear hb
            go_wp2_with fail
            refine region_cls (by kernel_rfl) (by kernel_rfl) ?_
            repeat (first
              | ((with_reducible refine quiet_pos ?_ (fun K hK => ?_))
                 · rfl
                 apply Exists.intro
                 refine ⟨fun w' hw' => ?_, ?_⟩
                 · go_simp
                   with_reducible rfl
                 simp only [Act.put, List.setIfInBounds_toArray, List.set_cons_zero, List.set_cons_succ]
                 refine hK _ ?_; clear hK K)
              | ((with_reducible refine quiet_neg ?_ (fun K hK => ?_))
                 · rfl
                 simp only [Act.put, List.setIfInBounds_toArray, List.set_cons_zero, List.set_cons_succ]
                 refine hK _ ?_; clear hK K))
            with_reducible refine wpQuiet_nil ?_
            intro wz hwz'
            have HS2 := hid (HS.out.step hwz')
            clear hwz'
            go_wp2
            go_roundw
            case rel => exact ⟨k + 1, m, by omega, by omega, by go_num, rfl, by rw [HN.out]; exact HM, by rw [HN.out]; exact HS2⟩
            case measure => simp [intOf]; omega
        · have hkm : k = s.size := by omega
          subst hkm
          have HS2 := hid (HS.out.blk_ wr.heap.size rfl 9 #[.string (s.extract m s.size)])
          go_wp2_with (first
            | (at_builtin; refine wpList_append_led rfl _ _ 27 rfl HS2.out 1 rfl Try.underlying27 hi hz0 hz1 (by rw [hz2]; decide) rfl rfl rfl (show Sees elStr _ _ _ 1 [s.extract m s.size] from sees_new elStr _ _ _ _ rfl) (by omega) HS2.out.bl.size ?_)
            | go_in)
          intro A2 c2 w7 hS5
          have hS6 := hid (hS5.drop 1)
          clear HS2 hS5
          go_wp2
          go_ret2
          refine ⟨_, rfl, ?_, hS6.out.bl⟩
          rw [HR.out, HA.out, ← HM.out]
          exact hS6.out.own 0 rfl
    · have HO : Hid (splOk s sep = false) := by unfold Hid splOk; rw [decide_eq_false h2]; rfl
      have HR : Hid (splR s sep = []) := by unfold Hid splR; rw [HO.out]; rfl
      rw [HO.out]
      have e1 : ((sep.size : Int) != 1) = false := by rw [h1]; rfl
      clear h1
      go_enter Try.func14, Try.ntmps14
      go_wp2_with fail
      go_ret2
      exact ⟨_, rfl, by rw [HR.out]; exact World.ownsRow_nil _ _ _ _, Below.refl _ _⟩
  · have HO : Hid (splOk s sep = false) := by unfold Hid splOk; rw [decide_eq_false h1]; simp
    have HR : Hid (splR s sep = []) := by unfold Hid splR; rw [HO.out]; rfl
    rw [HO.out]
    have e1 : ((sep.size : Int) != 1) = true := by rw [bne_iff_ne]; omega
    clear h1
    by_cases h2 : s.size ≤ 4000
    all_goals
      go_enter Try.func14, Try.ntmps14
      go_wp2_with fail
      go_ret2
      exact ⟨_, rfl, by rw [HR.out]; exact World.ownsRow_nil _ _ _ _, Below.refl _ _⟩
end Go.Proofs.Ytjebihhceechiaa
/-
  DERIVED: THE SHELF's CONTRACTS AT THIS DUMP, IN PLAIN WORDS (tools/lay-plain.mjs out of 'TryShelf.lean', which tools/lay-shelf.mjs wrote): THE SAME DECLARATIONS UNDER THE SAME NAMES: 'import', 'namespace', 'open', 'def', 'theorem' AND NOTHING ELSE: no command of the shelf's: FOR A HAND-IN. Each laying: the table of numbers ('.._ren') and one theorem, a field a fact of the dump's own or the kernel's comparison; each contract: ONE APPLICATION.
-/
namespace Go.Proofs
open Go.Shelf
def Try.lays169_ren : Go.Shelf.Ren := ⟨fun | 169 => 40 | n => n, fun | 70 => 56 | 9 => 9 | 0 => 0 | 72 => 58 | 37 => 36 | 127 => 65 | 3 => 3 | 5 => 5 | n => n, fun | n => n⟩
theorem Try.lays169 : Go.Proofs.Lays.n169 Try.prog Try.lays169_ren := {
  mixed := by kernel_rfl
  f169 := Try.func40.trans (congrArg some (by kernel_rfl))
  t0 := Try.underlying0
  a0 := Try.isAgg0
  z0 := Try.sizeOf0
  v0 := Try.zeroValue0
  t3 := Try.underlying3
  a3 := Try.isAgg3
  z3 := Try.sizeOf3
  v3 := Try.zeroValue3
  t9 := Try.underlying9
  a9 := Try.isAgg9
  z9 := Try.sizeOf9
  v9 := Try.zeroValue9
  t37 := Try.underlying36
  a37 := Try.isAgg36
  z37 := Try.sizeOf36
  v37 := Try.zeroValue36
  t70 := Try.underlying56
  a70 := Try.isAgg56
  z70 := Try.sizeOf56
  v70 := Try.zeroValue56
  t72 := Try.underlying58
  a72 := Try.isAgg58
  z72 := Try.sizeOf58
  v72 := Try.zeroValue58
  t127 := Try.underlying65
  a127 := Try.isAgg65
  z127 := Try.sizeOf65
  v127 := Try.zeroValue65 }
theorem Try.Builder_Extra_169 : Builder.Extra Try.prog Try.lays169_ren := {
  sizeBuilder := by kernel_rfl
  liesBuilder := by kernel_rfl
  t5 := Try.underlying5
  a5 := Try.isAgg5
  z5 := Try.sizeOf5
  v5 := Try.zeroValue5
  infoByte := by kernel_rfl
  cellsByte := by kernel_rfl
  sizeByte := by kernel_rfl
  neB5 := by decide }
open Go.RowKit in
/-- (*strings.Builder).String: "String returns the accumulated string.": OF A BUILDER THAT HOLDS AT LEAST ONE BYTE. ✋ THE MODEL FREEZES THOSE BYTES IN THE BUFFER (unsafe.String): a later write INTO them ends the model's run without an answer; a later append BEHIND them goes on. The statement's order of evaluation is drawn: one draw. (LAID: no walk: one application.) -/
theorem Try.Builder_String (B b : Nat) (l : List UInt8) (w : World) (h : Lib.IsBuilder 58 5 B b (Lib.byteCells l) w) (h0 : l ≠ []) :
    Calls Try.prog 40 #[.pointer (some ⟨b, 0, none⟩)] w fun e w' => e = .returned (.string ⟨l.toArray⟩) ∧ Below B w w' := Any.Builder_String Try.lays169 Try.Builder_Extra_169 B b l w h h0
open Go.RowKit in
/-- (*strings.Builder).String OF A BUILDER THAT HOLDS NO BYTE: the empty string. (Its buffer is nil, or a row of which it has taken nothing yet; where that row has NO capacity the model lays one new block for unsafe.SliceData's 'some address'.) One draw. (LAID: no walk: one application.) -/
theorem Try.Builder_String_empty (B b : Nat) (w : World) (h : Lib.IsBuilder 58 5 B b [] w) (hBw : B ≤ w.heap.size) :
    Calls Try.prog 40 #[.pointer (some ⟨b, 0, none⟩)] w fun e w' => e = .returned (.string ⟨#[]⟩) ∧ Below B w w' := Any.Builder_String_empty Try.lays169 Try.Builder_Extra_169 B b w h hBw
open Go.RowKit in
/-- (*strings.Builder).String: "String returns the accumulated string.": WHATEVER THE BUILDER HOLDS. (LAID: no walk: one application.) -/
theorem Try.Builder_String_any (B b : Nat) (l : List UInt8) (w : World) (h : Lib.IsBuilder 58 5 B b (Lib.byteCells l) w) (hBw : B ≤ w.heap.size) :
    Calls Try.prog 40 #[.pointer (some ⟨b, 0, none⟩)] w fun e w' => e = .returned (.string ⟨l.toArray⟩) ∧ Below B w w' := Any.Builder_String_any Try.lays169 Try.Builder_Extra_169 B b l w h hBw
def Try.lays241_ren : Go.Shelf.Ren := ⟨fun | 241 => 44 | 277 => 46 | n => n, fun | 70 => 56 | 3 => 3 | 0 => 0 | 72 => 58 | 37 => 36 | 5 => 5 | n => n, fun | n => n⟩
theorem Try.lays241 : Go.Proofs.Lays.n241 Try.prog Try.lays241_ren := {
  mixed := by kernel_rfl
  f241 := Try.func44.trans (congrArg some (by kernel_rfl))
  f277 := Try.func46.trans (congrArg some (by kernel_rfl))
  t0 := Try.underlying0
  a0 := Try.isAgg0
  z0 := Try.sizeOf0
  v0 := Try.zeroValue0
  t3 := Try.underlying3
  a3 := Try.isAgg3
  z3 := Try.sizeOf3
  v3 := Try.zeroValue3
  t37 := Try.underlying36
  a37 := Try.isAgg36
  z37 := Try.sizeOf36
  v37 := Try.zeroValue36
  t70 := Try.underlying56
  a70 := Try.isAgg56
  z70 := Try.sizeOf56
  v70 := Try.zeroValue56
  t72 := Try.underlying58
  a72 := Try.isAgg58
  z72 := Try.sizeOf58
  v72 := Try.zeroValue58 }
theorem Try.Builder_Extra_241 : Builder.Extra Try.prog Try.lays241_ren := {
  sizeBuilder := by kernel_rfl
  liesBuilder := by kernel_rfl
  t5 := Try.underlying5
  a5 := Try.isAgg5
  z5 := Try.sizeOf5
  v5 := Try.zeroValue5
  infoByte := by kernel_rfl
  cellsByte := by kernel_rfl
  sizeByte := by kernel_rfl
  neB5 := by decide }
open Go.RowKit in
/-- (*strings.Builder).grow (no doc but "grow copies the buffer to a new, larger buffer so that there are at least n bytes of capacity beyond len(b.buf)."): AT A BUILDER WITHOUT A BUFFER: a new row of whatever bytes for its buffer, none of them its own yet. Three draws. (LAID: no walk: one application.) -/
theorem Try.Builder_grow_fresh (B b n : Nat) (w : World) (hB : B ≤ b) (hbk : w.heap[b]? = some (.cells #[.pointer (some ⟨b, 0, none⟩), .slice none 0 0] 58 (0, 0))) (hBw : B ≤ w.heap.size) (hn : n ≤ 281474976710656) :
    Calls Try.prog 44 #[.pointer (some ⟨b, 0, none⟩), .int .i64 n] w fun e w' => e = .returned (.tuple #[]) ∧ (Lib.BuilderAt 58 5 B b (.pointer (some ⟨b, 0, none⟩)) [] w' ∧ Below B w w') := Any.Builder_grow_fresh Try.lays241 Try.Builder_Extra_241 B b n w hB hbk hBw hn
def Try.lays165_ren : Go.Shelf.Ren := ⟨fun | 165 => 38 | 240 => 43 | 241 => 44 | 276 => 45 | 277 => 46 | n => n, fun | 70 => 56 | 3 => 3 | 0 => 0 | 4 => 4 | 9 => 9 | 20 => 20 | 72 => 58 | 37 => 36 | 164 => 67 | 5 => 5 | n => n, fun | n => n⟩
theorem Try.lays165 : Go.Proofs.Lays.n165 Try.prog Try.lays165_ren := {
  mixed := by kernel_rfl
  f165 := Try.func38.trans (congrArg some (by kernel_rfl))
  f240 := Try.func43.trans (congrArg some (by kernel_rfl))
  f241 := Try.func44.trans (congrArg some (by kernel_rfl))
  f276 := Try.func45.trans (congrArg some (by kernel_rfl))
  f277 := Try.func46.trans (congrArg some (by kernel_rfl))
  t0 := Try.underlying0
  a0 := Try.isAgg0
  z0 := Try.sizeOf0
  v0 := Try.zeroValue0
  t3 := Try.underlying3
  a3 := Try.isAgg3
  z3 := Try.sizeOf3
  v3 := Try.zeroValue3
  t4 := Try.underlying4
  a4 := Try.isAgg4
  z4 := Try.sizeOf4
  v4 := Try.zeroValue4
  t9 := Try.underlying9
  a9 := Try.isAgg9
  z9 := Try.sizeOf9
  v9 := Try.zeroValue9
  t20 := Try.underlying20
  a20 := Try.isAgg20
  z20 := Try.sizeOf20
  v20 := Try.zeroValue20
  t37 := Try.underlying36
  a37 := Try.isAgg36
  z37 := Try.sizeOf36
  v37 := Try.zeroValue36
  t70 := Try.underlying56
  a70 := Try.isAgg56
  z70 := Try.sizeOf56
  v70 := Try.zeroValue56
  t72 := Try.underlying58
  a72 := Try.isAgg58
  z72 := Try.sizeOf58
  v72 := Try.zeroValue58
  t164 := Try.underlying67
  a164 := Try.isAgg67
  z164 := Try.sizeOf67
  v164 := Try.zeroValue67 }
theorem Try.Builder_Extra_165 : Builder.Extra Try.prog Try.lays165_ren := {
  sizeBuilder := by kernel_rfl
  liesBuilder := by kernel_rfl
  t5 := Try.underlying5
  a5 := Try.isAgg5
  z5 := Try.sizeOf5
  v5 := Try.zeroValue5
  infoByte := by kernel_rfl
  cellsByte := by kernel_rfl
  sizeByte := by kernel_rfl
  neB5 := by decide }
open Go.RowKit in
/-- (*strings.Builder).Grow AT A BUILDER THAT HAS NOT BEEN WRITTEN ('var b strings.Builder; b.Grow(n)'): "Grow grows b's capacity, if necessary, to guarantee space for another n bytes.": it holds no byte behind it as before it. (LAID: no walk: one application.) -/
theorem Try.Builder_Grow_fresh (B b n : Nat) (w : World) (hB : B ≤ b) (hbk : w.heap[b]? = some (.cells #[.pointer none, .slice none 0 0] 58 (0, 0))) (hBw : B ≤ w.heap.size) (hn : n ≤ 281474976710656) :
    Calls Try.prog 38 #[.pointer (some ⟨b, 0, none⟩), .int .i64 n] w fun e w' => e = .returned (.tuple #[]) ∧ (Lib.BuilderAt 58 5 B b (.pointer (some ⟨b, 0, none⟩)) [] w' ∧ Below B w w') := Any.Builder_Grow_fresh Try.lays165 Try.Builder_Extra_165 B b n w hB hbk hBw hn
def Try.lays156_ren : Go.Shelf.Ren := ⟨fun | 156 => 32 | 165 => 38 | 166 => 39 | 169 => 40 | 240 => 43 | 241 => 44 | 276 => 45 | 277 => 46 | n => n, fun | 31 => 27 | 9 => 9 | 3 => 3 | 4 => 4 | 0 => 0 | 20 => 20 | 72 => 58 | 76 => 62 | 70 => 56 | 37 => 36 | 75 => 61 | 127 => 65 | 164 => 67 | 5 => 5 | 80 => 52 | n => n, fun | n => n⟩
theorem Try.lays156 : Go.Proofs.Lays.n156 Try.prog Try.lays156_ren := {
  mixed := by kernel_rfl
  f156 := Try.func32.trans (congrArg some (by kernel_rfl))
  f165 := Try.func38.trans (congrArg some (by kernel_rfl))
  f166 := Try.func39.trans (congrArg some (by kernel_rfl))
  f169 := Try.func40.trans (congrArg some (by kernel_rfl))
  f240 := Try.func43.trans (congrArg some (by kernel_rfl))
  f241 := Try.func44.trans (congrArg some (by kernel_rfl))
  f276 := Try.func45.trans (congrArg some (by kernel_rfl))
  f277 := Try.func46.trans (congrArg some (by kernel_rfl))
  t0 := Try.underlying0
  a0 := Try.isAgg0
  z0 := Try.sizeOf0
  v0 := Try.zeroValue0
  t3 := Try.underlying3
  a3 := Try.isAgg3
  z3 := Try.sizeOf3
  v3 := Try.zeroValue3
  t4 := Try.underlying4
  a4 := Try.isAgg4
  z4 := Try.sizeOf4
  v4 := Try.zeroValue4
  t9 := Try.underlying9
  a9 := Try.isAgg9
  z9 := Try.sizeOf9
  v9 := Try.zeroValue9
  t20 := Try.underlying20
  a20 := Try.isAgg20
  z20 := Try.sizeOf20
  v20 := Try.zeroValue20
  t31 := Try.underlying27
  a31 := Try.isAgg27
  z31 := Try.sizeOf27
  v31 := Try.zeroValue27
  t37 := Try.underlying36
  a37 := Try.isAgg36
  z37 := Try.sizeOf36
  v37 := Try.zeroValue36
  t70 := Try.underlying56
  a70 := Try.isAgg56
  z70 := Try.sizeOf56
  v70 := Try.zeroValue56
  t72 := Try.underlying58
  a72 := Try.isAgg58
  z72 := Try.sizeOf58
  v72 := Try.zeroValue58
  t75 := Try.underlying61
  a75 := Try.isAgg61
  z75 := Try.sizeOf61
  v75 := Try.zeroValue61
  t76 := Try.underlying62
  a76 := Try.isAgg62
  z76 := Try.sizeOf62
  v76 := Try.zeroValue62
  t127 := Try.underlying65
  a127 := Try.isAgg65
  z127 := Try.sizeOf65
  v127 := Try.zeroValue65
  t164 := Try.underlying67
  a164 := Try.isAgg67
  z164 := Try.sizeOf67
  v164 := Try.zeroValue67 }
theorem Try.Builder_Extra_156 : Builder.Extra Try.prog Try.lays156_ren := {
  sizeBuilder := by kernel_rfl
  liesBuilder := by kernel_rfl
  t5 := Try.underlying5
  a5 := Try.isAgg5
  z5 := Try.sizeOf5
  v5 := Try.zeroValue5
  infoByte := by kernel_rfl
  cellsByte := by kernel_rfl
  sizeByte := by kernel_rfl
  neB5 := by decide }
open Go.RowKit in
/-- No element: the empty string; the world is as it was. (Whatever the slice's address and capacity: a nil slice too.) (LAID: no walk: one application.) -/
theorem Try.strings_Join_none (a : Option Addr) (c : Nat) (sep : ByteArray) (w : World) :
    Calls Try.prog 32 #[.slice a 0 c, .string sep] w fun e w' => e = .returned (.string ⟨#[]⟩) ∧ w' = w := Any.strings_Join_none Try.lays156 Try.Builder_Extra_156 a c sep w
open Go.RowKit in
/-- strings.Join: "Join concatenates the elements of its first argument to create a single string. The separator string sep is placed between elements in the resulting string.": HOWEVER MANY ELEMENTS. Below the heap's end the world is as it was. (LAID: no walk: one application.) -/
theorem Try.strings_Join (bk o c : Nat) (xs : List ByteArray) (sep : ByteArray) (w : World) (hcells : ∀ (j : Nat) x, xs[j]? = some x → w.cell? ⟨bk, o + j, none⟩ = some (.string x)) (hbk : bk < w.heap.size) (hN : xs.length ≤ 140737488355328) (hcap : xs.length ≤ c) (hlen : (Lib.join (xs.map (·.data.toList)) sep.data.toList).length ≤ 140737488355328) :
    Calls Try.prog 32 #[.slice (some ⟨bk, o, none⟩) xs.length c, .string sep] w fun e w' => e = .returned (.string ⟨(Lib.join (xs.map (·.data.toList)) sep.data.toList).toArray⟩) ∧ Below w.heap.size w w' := Any.strings_Join Try.lays156 Try.Builder_Extra_156 bk o c xs sep w hcells hbk hN hcap hlen
def Try.lays137_ren : Go.Shelf.Ren := ⟨fun | 137 => 31 | 217 => 37 | 266 => 42 | n => n, fun | 9 => 9 | 5 => 5 | 3 => 3 | n => n, fun | n => n⟩
theorem Try.lays137 : Go.Proofs.Lays.n137 Try.prog Try.lays137_ren := {
  mixed := by kernel_rfl
  f137 := Try.func31.trans (congrArg some (by kernel_rfl))
  f217 := Try.func37.trans (congrArg some (by kernel_rfl))
  f266 := Try.func42.trans (congrArg some (by kernel_rfl))
  t3 := Try.underlying3
  a3 := Try.isAgg3
  z3 := Try.sizeOf3
  v3 := Try.zeroValue3
  t5 := Try.underlying5
  a5 := Try.isAgg5
  z5 := Try.sizeOf5
  v5 := Try.zeroValue5
  t9 := Try.underlying9
  a9 := Try.isAgg9
  z9 := Try.sizeOf9
  v9 := Try.zeroValue9 }
open Go.RowKit in
/-- strings.IndexByte: "IndexByte returns the index of the first instance of c in s, or -1 if c is not present in s.": IT RETURNS 'Lib.indexByte s c'; the world is as it was. (LAID: no walk: one application.) -/
theorem Try.strings_IndexByte (s : ByteArray) (c : Int) (w : World) :
    Calls Try.prog 31 #[.string s, .int .u8 c] w fun e w' => e = .returned (.int .i64 (Lib.indexByte s.data.toList c.toNat.toUInt8)) ∧ w' = w := Any.strings_IndexByte Try.lays137 s c w
def Try.lays217_ren : Go.Shelf.Ren := ⟨fun | 217 => 37 | 266 => 42 | n => n, fun | 9 => 9 | 5 => 5 | 3 => 3 | n => n, fun | n => n⟩
theorem Try.lays217 : Go.Proofs.Lays.n217 Try.prog Try.lays217_ren := {
  mixed := by kernel_rfl
  f217 := Try.func37.trans (congrArg some (by kernel_rfl))
  f266 := Try.func42.trans (congrArg some (by kernel_rfl))
  t3 := Try.underlying3
  a3 := Try.isAgg3
  z3 := Try.sizeOf3
  v3 := Try.zeroValue3
  t5 := Try.underlying5
  a5 := Try.isAgg5
  z5 := Try.sizeOf5
  v5 := Try.zeroValue5
  t9 := Try.underlying9
  a9 := Try.isAgg9
  z9 := Try.sizeOf9
  v9 := Try.zeroValue9 }
open Go.RowKit Go.Lib in
/-- internal/stringslite.IndexByte (what strings.IndexByte calls): IT RETURNS 'Lib.indexByte s c'; the world is as it was. (LAID: no walk: one application.) -/
theorem Try.stringslite_IndexByte (s : ByteArray) (c : Int) (w : World) :
    Calls Try.prog 37 #[.string s, .int .u8 c] w fun e w' => e = .returned (.int .i64 (Lib.indexByte s.data.toList c.toNat.toUInt8)) ∧ w' = w := Any.stringslite_IndexByte Try.lays217 s c w
end Go.Proofs
/- JoinStrings of both sides, walked. Conditions: as each states. -/
namespace Go.Proofs.Ytjebihhceechiaa
open Go.RowKit
set_option maxRecDepth 100000 in
theorem l1Stands_any (s : ByteArray) (b : Int) (w : World) (hs : s.size ≤ 1048576) :
    Calls Try.prog 30 #[.string s, .int .u8 b] w fun e w' => e = .returned (.bool (hasC b s)) ∧ w = w' := by
  go_enter Try.func30, Try.ntmps30
  go_wp2_with fail
  go_loop [5] (fun i => ∃ k : Nat, k ≤ s.size ∧ i = .int .i64 k ∧ Hid (∀ u ∈ s.data.toList.take k, ¬ (u.toNat : Int) = b)) (fun i => s.size - (intOf i).toNat)
  case atStart => exact ⟨0, Nat.zero_le _, rfl, fun u hu => by simp at hu⟩
  case round =>
    obtain ⟨k, hk, rfl, HN⟩ := hrel
    by_cases hlt : k < s.size
    · by_cases hb : (s[k].toNat : Int) = b
      · have hb2 : ((s[k].toNat : Int) == b) = true := by rw [hb]; exact beq_self_eq_true b
        have HR : Hid (hasC b s = true) := by
          unfold Hid hasC
          rw [List.any_eq_true]
          exact ⟨s[k], List.mem_of_getElem? (get_extract hlt), decide_eq_true hb⟩
        clear hb
        go_wp2
        go_ret
        exact ⟨by rw [HR.out]; rfl, rfl⟩
      · have hb2 : ((s[k].toNat : Int) == b) = false := by rw [beq_eq_false_iff_ne]; exact hb
        have HN2 : Hid (∀ u ∈ s.data.toList.take (k + 1), ¬ (u.toNat : Int) = b) := by
          intro u hu
          rw [List.take_add_one, get_extract hlt] at hu
          rcases List.mem_append.1 hu with hu | hu
          · exact HN.out u hu
          · simp at hu; subst hu; exact hb
        clear hb HN
        go_wp2
        go_round
        case rel => exact ⟨k + 1, by omega, by go_num, HN2⟩
        case measure => simp [intOf]; omega
    · have hkm : k = s.size := by omega
      have HR : Hid (hasC b s = false) := by
        unfold Hid
        rw [hasC_false]
        have := HN.out
        rw [List.take_of_length_le (by simp; omega)] at this
        exact this
      clear HN hkm
      go_wp2
      go_ret
      exact ⟨by rw [HR.out]; rfl, rfl⟩
/-- JoinStrings' answer. -/
def jnOk (xs : List ByteArray) (sep : ByteArray) : Bool := decide (sep.size = 1) && okJ (sepB sep) xs
def jnS (xs : List ByteArray) (sep : ByteArray) : ByteArray := if h : sep.size = 1 then joinS (sep[0]'(by omega)) xs else ⟨#[]⟩
theorem sep_one {sep : ByteArray} (h : sep.size = 1) : sep.data.toList = [sep[0]'(by omega)] := by
  have hl : sep.data.toList.length = 1 := by simpa using h
  apply List.ext_getElem (by rw [hl]; rfl)
  intro i h1 h2
  have : i = 0 := by simp at h2; exact h2
  subst this
  rfl
section
variable {n cc : Nat} {A : Option Addr} {xs : List ByteArray}
set_option maxHeartbeats 2000000 in
set_option maxRecDepth 100000 in
theorem specJoin_any (sep : ByteArray) (w : World) (hA : Sees elStr w w.heap.size A n xs) (hn : n ≤ 1048576) (hx : ∀ x ∈ xs, x.size ≤ 1048576) (hp : sep.size ≤ 1048576) :
    Calls Try.prog 19 #[.slice A n cc, .string sep] w fun e w' => e = .returned (.tuple #[.string (jnS xs sep), .bool (jnOk xs sep)]) ∧ Below w.heap.size w w' := by
  have hlen := hA.len
  by_cases h1 : sep.size = 1
  · have h0 : 0 < sep.size := by omega
    obtain ⟨c, hc⟩ : ∃ c, c = sep[0]'h0 := ⟨_, rfl⟩
    obtain ⟨b, hb⟩ : ∃ b, b = (c.toNat : Int) := ⟨_, rfl⟩
    have HC := hid hc
    have HB := hid hb
    have HD : Hid (sep.data.toList = [c]) := by unfold Hid; rw [sep_one h1, hc]
    have HK : Hid (jnOk xs sep = okJ b xs) := by unfold Hid jnOk sepB; rw [dif_pos h0, decide_eq_true h1, hb, hc]; rfl
    have HS : Hid (jnS xs sep = joinS c xs) := by unfold Hid jnS; rw [dif_pos h1, hc]
    have e1 : ((sep.size : Int) != 1) = false := by rw [h1]; rfl
    have H1 := hid h1
    by_cases hn0 : n = 0
    · have HO : Hid (okJ b xs = false) := by unfold Hid okJ; rw [hlen, hn0]; rfl
      have HJ := hid (joinS_no (c := c) (xs := xs) (by rw [← hb]; exact HO.out))
      have e2 : ((n : Int) == 0) = true := by rw [hn0]; rfl
      clear h1 hc hb hn0 hlen
      go_enter Try.func19, Try.ntmps19
      go_wp2_with fail
      go_ret2
      exact ⟨by rw [HK.out, HO.out, HS.out, HJ.out]; rfl, Below.refl _ _⟩
    · have e2 : ((n : Int) == 0) = false := by rw [beq_eq_false_iff_ne]; omega
      have HX := hid hx
      have HL := hid hlen
      have HN0 := hid hn0
      have HSS := hid hA
      have hbz : ((sep[0]'h0).toNat : Int) = b := by rw [hb, hc]
      have HBZ := hid hbz
      clear h1 hc hb hn0 hx hlen hA hbz
      go_enter Try.func19, Try.ntmps19
      go_wp2_with fail
      go_loopw [6, 7] (fun o i wr => ∃ (k : Nat) (out : ByteArray), k ≤ n ∧ i = .int .i64 k ∧ o = .string out ∧ out.size ≤ 4000 ∧ Hid (out.data.toList = joinK c xs k) ∧ Hid (∀ j x, j < k → xs[j]? = some x → hasC b x = false) ∧ Below w.heap.size w wr) (fun _ i _ => n - (intOf i).toNat)
      case atStart => exact ⟨0, _, Nat.zero_le _, rfl, rfl, by decide, rfl, fun j x h => by omega, Below.refl _ _⟩
      case round =>
        obtain ⟨k, out, hk, rfl, rfl, ho, HO, HN, hbl⟩ := hrel
        by_cases hlt : k < n
        · obtain ⟨x, hxk⟩ : ∃ x, xs[k]? = some x := ⟨xs[k]'(by rw [HL.out]; exact hlt), List.getElem?_eq_getElem _⟩
          have hxs := HX.out x (List.mem_of_getElem? hxk)
          obtain ⟨bk, off, rfl, _, hcell⟩ := HSS.out.at_ hlt
          have hcx := hcell k x hxk 0 _ rfl
          simp only [elStr, Nat.mul_one, Nat.add_zero] at hcx
          have C0 : ∀ w', Cls wr w' → w'.cell? ⟨bk, off + k, none⟩ = some (.string x) := fun _ h => h.cell (bl_cell hbl hcx)
          obtain ⟨f, hf⟩ : ∃ f, hasC b x = f := ⟨_, rfl⟩
          have HF := hid hf
          have HST : Hid (∀ w', Calls Try.prog 30 #[.string x, .int .u8 (sep[0]'h0).toNat] w' fun e w2 => e = .returned (.bool f) ∧ w' = w2) := fun w' => by rw [HBZ.out, ← HF.out]; exact l1Stands_any x b w' hxs
          have i1 : (k : Int) < (n : Int) := by omega
          have XK := hid hxk
          clear hcell hcx hf hxk
          go_wp2_with fail
          refine region_cls (by kernel_rfl) (by kernel_rfl) ?_
          repeat (first
            | ((with_reducible refine quiet_pos ?_ (fun K hK => ?_))
               · rfl
               apply Exists.intro
               refine ⟨fun w' hw' => ?_, ?_⟩
               · go_simp
                 first
                   | with_reducible rfl
                   | go_at_call 30; with_reducible exact hw'.same (HST.out _)
               simp only [Act.put, List.setIfInBounds_toArray, List.set_cons_zero, List.set_cons_succ]
               refine hK _ ?_; clear hK K)
            | ((with_reducible refine quiet_neg ?_ (fun K hK => ?_))
               · rfl
               simp only [Act.put, List.setIfInBounds_toArray, List.set_cons_zero, List.set_cons_succ]
               refine hK _ ?_; clear hK K))
          with_reducible refine wpQuiet_nil ?_
          intro wz hwz'
          cases f
          · have HN2 : Hid (∀ j x, j < k + 1 → xs[j]? = some x → hasC b x = false) := by
              intro j y hj hy
              by_cases hjk : j = k
              · subst hjk
                rw [XK.out] at hy
                injection hy with hy
                rw [← hy]; exact HF.out
              · exact HN.out j y (by omega) hy
            have hb2 := bl_then hbl hwz'
            have C1 := C0 wz hwz'
            clear C0 HST hbl hwz' HN
            have hi2 : k < xs.length := by rw [HL.out]; exact hlt
            have HI2 := hid hi2
            have hs2 := H1.out
            clear hi2
            by_cases hk0 : 0 < k
            · have HJ : Hid ((out ++ sep ++ x).data.toList = joinK c xs (k + 1)) := by
                unfold Hid
                rw [Joins.data_append, Joins.data_append, HO.out, HD.out, joinK_succ XK.out hk0]
              have k0 : (k : Int) > 0 := by omega
              by_cases hbig : (out ++ sep ++ x).size ≤ 4000
              · have hb3 := hbig
                rw [ByteArray.size_append, ByteArray.size_append] at hb3
                clear hs2
                go_wp2
                go_roundw
                case rel => exact ⟨k + 1, _, by omega, by go_num, rfl, hbig, HJ, HN2, hb2⟩
                case measure => simp [intOf]; omega
              · have hb3 := hbig
                rw [ByteArray.size_append, ByteArray.size_append] at hb3
                have HF2 : Hid (okJ b xs = false) := okJ_long HI2.out (by rw [← HJ.out]; simp only [Array.length_toList, ByteArray.size_data]; omega)
                clear hs2 hbig
                go_wp2
                go_ret2
                refine ⟨?_, hb2⟩
                rw [HK.out, HF2.out, HS.out, joinS_no (by rw [← HB.out]; exact HF2.out)]
                rfl
            · have hkz : Hid (k = 0) := by unfold Hid; omega
              have HJ : Hid ((out ++ x).data.toList = joinK c xs (k + 1)) := by
                unfold Hid
                have := HO.out
                have hx := XK.out
                rw [hkz.out] at this hx ⊢
                rw [Joins.data_append, this, joinK_one hx]; rfl
              have k0 : ¬ (k : Int) > 0 := by omega
              by_cases hbig : (out ++ x).size ≤ 4000
              · have hb3 := hbig
                rw [ByteArray.size_append] at hb3
                clear hs2
                go_wp2
                go_roundw
                case rel => exact ⟨k + 1, _, by omega, by go_num, rfl, hbig, HJ, HN2, hb2⟩
                case measure => simp [intOf]; omega
              · have hb3 := hbig
                rw [ByteArray.size_append] at hb3
                have HF2 : Hid (okJ b xs = false) := okJ_long HI2.out (by rw [← HJ.out]; simp only [Array.length_toList, ByteArray.size_data]; omega)
                clear hs2 hbig
                go_wp2
                go_ret2
                refine ⟨?_, hb2⟩
                rw [HK.out, HF2.out, HS.out, joinS_no (by rw [← HB.out]; exact HF2.out)]
                rfl
          · have HF2 : Hid (okJ b xs = false) := okJ_has XK.out HF.out
            have hb2 := bl_then hbl hwz'
            clear C0 HST hbl hwz' HN
            go_wp2
            go_ret2
            refine ⟨?_, hb2⟩
            rw [HK.out, HF2.out, HS.out, joinS_no (by rw [← HB.out]; exact HF2.out)]
            rfl
        · have hkn : k = n := by omega
          have HF2 : Hid (okJ b xs = true) := by
            have hj := joinK_len (c := c) (xs := xs) (k := n) (by have := HN0.out; omega) (by rw [HL.out]; exact Nat.le_refl _)
            have h2 := HO.out
            rw [hkn] at h2
            rw [← h2] at hj
            simp only [Array.length_toList, ByteArray.size_data] at hj
            have h3 := HL.out
            have h4 := HN0.out
            refine hid (okJ_yes (by omega) (fun j x hj => HN.out j x ?_ hj) (by rw [h3]; omega))
            have := (List.getElem?_eq_some_iff.1 hj).1
            omega
          have HJ : Hid (joinS c xs = out) := joinS_yes (by rw [← HB.out]; exact HF2.out) (by rw [HO.out, HL.out, hkn])
          clear hkn HN HO
          go_wp2
          go_ret2
          refine ⟨?_, hbl⟩
          rw [HK.out, HF2.out, HS.out, HJ.out]
          rfl
  · have HK : Hid (jnOk xs sep = false) := by unfold Hid jnOk; rw [decide_eq_false h1]; rfl
    have HS : Hid (jnS xs sep = ⟨#[]⟩) := by unfold Hid jnS; rw [dif_neg h1]
    have e1 : ((sep.size : Int) != 1) = true := by rw [bne_iff_ne]; omega
    clear h1
    go_enter Try.func19, Try.ntmps19
    go_wp2_with fail
    go_ret2
    exact ⟨by rw [HK.out, HS.out]; rfl, Below.refl _ _⟩
theorem idx_any (c : UInt8) (b : Int) (hb : b = (c.toNat : Int)) (x : ByteArray) : ∃ r : Int, -1 ≤ r ∧ (decide (0 ≤ r) = hasC b x) ∧ ∀ w, Calls Try.prog 31 #[.string x, .int .u8 b] w fun e w' => e = .returned (.int .i64 r) ∧ w = w' := by
  refine ⟨Lib.indexByte x.data.toList c, Lib.indexByte_ge _ _, ?_, fun w => ?_⟩
  · rw [hb]
    have h := has_index (x := x) (c := c)
    cases g : hasC (c.toNat : Int) x
    · rw [g] at h
      exact decide_eq_false (fun h2 => by simpa using h.1 h2)
    · exact decide_eq_true (h.2 g)
  · refine (Try.strings_IndexByte x b w).mono ?_
    rintro e w' ⟨he, hw⟩
    refine ⟨?_, hw.symm⟩
    rw [he, hb]
    simp
set_option maxHeartbeats 2000000 in
set_option maxRecDepth 100000 in
theorem implJoin_any (sep : ByteArray) (w : World) (hA : Sees elStr w w.heap.size A n xs) (hcc : n ≤ cc) (hn : n ≤ 1048576) (hx : ∀ x ∈ xs, x.size ≤ 1048576) (_hp : sep.size ≤ 1048576) :
    Calls Try.prog 21 #[.slice A n cc, .string sep] w fun e w' => e = .returned (.tuple #[.string (jnS xs sep), .bool (jnOk xs sep)]) ∧ Below w.heap.size w w' := by
  have hlen := hA.len
  by_cases hn0 : n = 0
  · have HO : Hid (okJ (sepB sep) xs = false) := by unfold Hid okJ; rw [hlen, hn0]; rfl
    have HK : Hid (jnOk xs sep = false) := by unfold Hid jnOk; rw [HO.out, Bool.and_false]
    have HS : Hid (jnS xs sep = ⟨#[]⟩) := by
      unfold Hid jnS
      split
      · rename_i h
        refine joinS_no ?_
        have := HO.out
        unfold sepB at this
        rw [dif_pos (by omega)] at this
        exact this
      · rfl
    have e2 : ((n : Int) == 0) = true := by rw [hn0]; rfl
    clear hlen hn0
    go_enter Try.func21, Try.ntmps21
    go_wp2_with fail
    go_ret2
    exact ⟨by rw [HK.out, HS.out]; rfl, Below.refl _ _⟩
  · have e2 : ((n : Int) == 0) = false := by rw [beq_eq_false_iff_ne]; omega
    by_cases h1 : sep.size = 1
    · have h0 : 0 < sep.size := by omega
      obtain ⟨c, hc⟩ : ∃ c, c = sep[0]'h0 := ⟨_, rfl⟩
      obtain ⟨b, hb⟩ : ∃ b, b = (c.toNat : Int) := ⟨_, rfl⟩
      have HC := hid hc
      have HB := hid hb
      have HD : Hid (sep.data.toList = [c]) := by unfold Hid; rw [sep_one h1, hc]
      have HK : Hid (jnOk xs sep = okJ b xs) := by unfold Hid jnOk sepB; rw [dif_pos h0, decide_eq_true h1, hb, hc]; rfl
      have HS : Hid (jnS xs sep = joinS c xs) := by unfold Hid jnS; rw [dif_pos h1, hc]
      have e1 : ((sep.size : Int) != 1) = false := by rw [h1]; rfl
      have H1 := hid h1
      have HX := hid hx
      have HL := hid hlen
      have HN0 := hid hn0
      have HSS := hid hA
      have hbz : ((sep[0]'h0).toNat : Int) = b := by rw [hb, hc]
      have HBZ := hid hbz
      clear h1 hc hb hn0 hx hlen hA hbz
      go_enter Try.func21, Try.ntmps21
      go_wp2_with fail
      go_loopw [6, 8, 22] (fun z _ i wr => ∃ (k t : Nat), k ≤ n ∧ i = .int .i64 k ∧ z = .int .i64 t ∧ t ≤ 1048576 + 4000 ∧ (0 < k → t ≤ 4000) ∧ Hid (t = n - 1 + lensK xs k) ∧ Hid (∀ j x, j < k → xs[j]? = some x → hasC b x = false) ∧ wr = w) (fun _ _ i _ => n - (intOf i).toNat)
      case atStart => exact ⟨0, n - 1, Nat.zero_le _, rfl, (by rw [show ((n - 1 : Nat) : Int) = (n : Int) - 1 by have := HN0.out; omega]), by omega, fun h => by omega, rfl, fun j x h => by omega, rfl⟩
      case round =>
        obtain ⟨k, t, hk, rfl, rfl, ht, ht4, HT, HN, rfl⟩ := hrel
        by_cases hlt : k < n
        · obtain ⟨x, hxk⟩ : ∃ x, xs[k]? = some x := ⟨xs[k]'(by rw [HL.out]; exact hlt), List.getElem?_eq_getElem _⟩
          have hxs := HX.out x (List.mem_of_getElem? hxk)
          obtain ⟨bk, off, rfl, _, hcell⟩ := HSS.out.at_ hlt
          have hcx := hcell k x hxk 0 _ rfl
          simp only [elStr, Nat.mul_one, Nat.add_zero] at hcx
          have hk2 := lensK_succ hxk
          have hk3 := lensK_mono (xs := xs) (k := k + 1) (j := n) hlt
          have XK := hid hxk
          clear hcell hxk
          by_cases hbig : 4000 < t + x.size
          · have HF2 : Hid (okJ b xs = false) := okJ_big (by have h1 := HT.out; have h2 := HL.out; rw [h2]; omega)
            have i2 : (4000 : Int) < (t : Int) + (x.size : Int) := by omega
            clear hk2 hk3
            go_wp2_with fail
            go_ret2
            refine ⟨?_, Below.refl _ _⟩
            rw [HK.out, HF2.out, HS.out, joinS_no (by rw [← HB.out]; exact HF2.out)]
            rfl
          · obtain ⟨r, hr1, hr2, HI⟩ := idx_any c b HB.out x
            have i2 : ¬ (4000 : Int) < (t : Int) + (x.size : Int) := by omega
            have HTT : Hid (t + x.size = n - 1 + lensK xs (k + 1)) := by have h1 := HT.out; refine hid ?_; omega
            rw [← HBZ.out] at HI
            have HI2 := hid HI
            clear hk2 hk3 HI
            cases hf : hasC b x
            · have hr3 : ¬ (0 ≤ r) := by rw [hf] at hr2; exact of_decide_eq_false hr2
              have HN2 : Hid (∀ j x, j < k + 1 → xs[j]? = some x → hasC b x = false) := by
                intro j y hj hy
                by_cases hjk : j = k
                · subst hjk
                  rw [XK.out] at hy
                  injection hy with hy
                  rw [← hy]; exact hf
                · exact HN.out j y (by omega) hy
              clear hf hr2 HN
              go_wp2_with fail
              refine (HI2.out _).mono ?_
              rintro e w1 ⟨rfl, rfl⟩
              clear HI2 HT
              go_wp2
              go_roundw
              case rel => exact ⟨k + 1, t + x.size, by omega, by go_num, by go_num, by omega, fun _ => by omega, HTT, HN2, trivial⟩
              case measure => simp [intOf]; omega
            · have hr3 : 0 ≤ r := by rw [hf] at hr2; exact of_decide_eq_true hr2
              have HF2 : Hid (okJ b xs = false) := okJ_has XK.out hf
              clear hf hr2 HN
              go_wp2_with fail
              refine (HI2.out _).mono ?_
              rintro e w1 ⟨rfl, rfl⟩
              clear HI2 HT
              go_wp2
              go_ret2
              refine ⟨?_, Below.refl _ _⟩
              rw [HK.out, HF2.out, HS.out, joinS_no (by rw [← HB.out]; exact HF2.out)]
              rfl
        · have hkn : k = n := by omega
          subst hkn
          have HF2 : Hid (okJ b xs = true) := by
            have h1 := HT.out
            have h3 := HL.out
            have h4 := HN0.out
            refine hid (okJ_yes (by omega) (fun j x hj => HN.out j x ?_ hj) (by rw [h3]; have := ht4 (by omega); omega))
            have := (List.getElem?_eq_some_iff.1 hj).1
            omega
          obtain ⟨bk, off, rfl, hbk, hcell⟩ := HSS.out.at_ (k := 0) (by have := HN0.out; omega)
          have hlj : (joinK c xs xs.length).length ≤ 8096 := by
            have h1 := HT.out
            have h3 := HL.out
            have h4 := HN0.out
            rw [joinK_len (by omega) (Nat.le_refl _), h3]
            have := ht4 (by omega)
            omega
          have hbt : Lib.join (xs.map (·.data.toList)) [c] = joinK c xs xs.length := by unfold joinK byts; rw [List.take_length]
          have hcl : ∀ (j : Nat) x, xs[j]? = some x → wr.cell? ⟨bk, off + j, none⟩ = some (.string x) := fun j x hj => by
            have h := hcell j x hj 0 (.string x) rfl
            simpa [elStr] using h
          have HJ := hid (Try.strings_Join bk off cc xs sep wr hcl hbk (by have := HL.out; omega) (by rw [HL.out]; exact hcc) (by rw [HD.out, hbt]; omega))
          have HR : Hid ((⟨(Lib.join (xs.map (·.data.toList)) sep.data.toList).toArray⟩ : ByteArray) = joinS c xs) := by
            unfold Hid
            rw [HD.out, hbt]
            exact (joinS_yes (by rw [← HB.out]; exact HF2.out) (by simp)).symm
          rw [HL.out, HR.out] at HJ
          clear HN HT hcell hlj hbt ht4 hcl
          go_wp2_with fail
          refine HJ.out.mono ?_
          rintro e w1 ⟨rfl, hb1⟩
          go_wp2
          go_ret2
          refine ⟨?_, hb1⟩
          rw [HK.out, HF2.out, HS.out]
          rfl
    · have HK : Hid (jnOk xs sep = false) := by unfold Hid jnOk; rw [decide_eq_false h1]; rfl
      have HS : Hid (jnS xs sep = ⟨#[]⟩) := by unfold Hid jnS; rw [dif_neg h1]
      have e1 : ((sep.size : Int) != 1) = true := by rw [bne_iff_ne]; omega
      clear h1
      go_enter Try.func21, Try.ntmps21
      go_wp2_with fail
      go_ret2
      exact ⟨by rw [HK.out, HS.out]; rfl, Below.refl _ _⟩
end
end Go.Proofs.Ytjebihhceechiaa
/- How an argument that can be read is opened: strings, slices, networks, routes. Conditions: none. -/
namespace Go.Proofs.Ytjebihhceechiaa
open Go.ChangeShapes Go.WideShapes Go.ChangeAt Go.RowKit Go.Deep
theorem i64_bd {n : Int} (h : (Lit.int .i64 n).wf = true) : -9223372036854775808 ≤ n ∧ n ≤ 9223372036854775807 := by
  simp [Lit.wf, IntKind.min, IntKind.max, IntKind.signed, IntKind.bits] at h; omega
section
variable {H : Type} {enc : TypeId × Value → H} {P : Program} {W : World} {spare : Nat → Bool} {held : Bool}
/-- A slice whose elements' cells are known. -/
theorem open_sl {α : Type} (E : El α) {t e : TypeId} {fuel : Nat} {cs : List Value} {x : DataW H × List MemPlace} (good : α → Prop) (ht : P.underlying t = some (.slice e)) (hsz : P.cellsOf e = E.sz)
    (hel : ∀ fuel cs y, DataW.trod enc P W 0 spare held fuel e cs = some y → ∃ a, cs = E.cells a ∧ good a)
    (h : DataW.trod enc P W 0 spare held fuel t cs = some x) :
    ∃ A n c xs, cs = [.slice A n c] ∧ n ≤ c ∧ c ≤ maxLen ∧ Sees E W W.heap.size A n xs ∧ ∀ a ∈ xs, good a := by
  rcases open_slice ht h with ⟨h0, _⟩ | ⟨a, len, cap, m, k, D, Pl, hcs, _, hl, hm, hmm, _, hi⟩
  · exact ⟨none, 0, 0, [], h0, Nat.le_refl _, Nat.zero_le _, Sees.nil _ _ _ _, fun _ h => by cases h⟩
  · have hlm : len ≤ m := by rw [hmm]; split <;> omega
    have key : ∀ i : Nat, i < len → ∃ y : α, good y ∧ ∀ j u, (E.cells y)[j]? = some u → W.cell? (a.add (i * E.sz + j)) = some u := by
      intro i hlt
      obtain ⟨cs', hc, htr⟩ := hi i (by omega)
      obtain ⟨y, rfl, hg⟩ := hel _ _ _ htr
      obtain ⟨_, hlen, hat⟩ := World.cells?_some hc
      refine ⟨y, hg, fun j u hu => ?_⟩
      have hj : j < P.cellsOf e := by rw [hsz, ← E.len y]; exact (List.getElem?_eq_some_iff.1 hu).1
      have := hat j hj
      rw [add_add, hsz] at this
      rw [this, hu]
    rcases Nat.eq_zero_or_pos len with h0 | h0
    · subst h0
      exact ⟨some a, 0, cap, [], hcs, hl, hm, Sees.nil _ _ _ _, fun _ h => by cases h⟩
    · have hspot : a.spot = none := by
        obtain ⟨y, _, hy⟩ := key 0 h0
        have hpos := E.pos
        have hlen := E.len y
        have h1 := hy 0 ((E.cells y)[0]'(by omega)) (List.getElem?_eq_getElem (by omega))
        simp only [Nat.zero_mul, Nat.zero_add] at h1
        rw [show a.add 0 = a by simp [Addr.add]] at h1
        unfold World.cell? at h1
        split at h1
        · split at h1
          · cases h1
          · rename_i hs; simpa using hs
        · cases h1
      obtain ⟨y0, _, _⟩ := key 0 h0
      have : Inhabited α := ⟨y0⟩
      obtain ⟨f, hf⟩ := choose_lt key
      refine ⟨some a, len, cap, (List.range len).map f, hcs, hl, hm, ⟨by simp, .inr ⟨a.block, a.off, by cases a; simp_all, ?_, ?_⟩⟩, ?_⟩
      · obtain ⟨_, hy⟩ := hf 0 h0
        have hpos := E.pos
        have hlen := E.len (f 0)
        have h1 := hy 0 ((E.cells (f 0))[0]'(by omega)) (List.getElem?_eq_getElem (by omega))
        have := World.block_lt_of_cell? W _ h1
        simp only [Addr.add] at this
        split at this <;> simpa using this
      · intro k x hx j u hu
        have hk : k < len := by have := (List.getElem?_eq_some_iff.1 hx).1; simpa using this
        have hx' : f k = x := by simpa [List.getElem?_map, List.getElem?_range, hk] using hx
        have := (hf k hk).2 j u (by rw [hx']; exact hu)
        rw [← this]
        unfold Addr.add
        split
        · rename_i h00; rw [Nat.add_assoc, h00, Nat.add_zero]; cases a; simp_all
        · rw [Nat.add_assoc]
      · intro x hx
        obtain ⟨i, hi, rfl⟩ := List.mem_map.1 hx
        exact (hf i (by simpa using hi)).1
/-- A slice that came in. -/
def SlArg {α : Type} (E : El α) (W : World) (A : Option Addr) (n c : Nat) (xs : List α) (good : α → Prop) : Prop := n ≤ c ∧ c ≤ maxLen ∧ Sees E W W.heap.size A n xs ∧ ∀ a ∈ xs, good a
theorem open_sl_val {α : Type} (E : El α) {t e : TypeId} {base : Nat} {v : Value} {d : DataW H} {p : List MemPlace} (good : α → Prop) (ht : P.underlying t = some (.slice e)) (hsz : P.cellsOf e = E.sz)
    (hel : ∀ fuel cs y, DataW.trod enc P W 0 spare held fuel e cs = some y → ∃ a, cs = E.cells a ∧ good a)
    (hv : Value.okWide P W .any base t v) (h : DataW.Trod enc P W 0 spare held t v d p) : ∃ A n c xs, v = .slice A n c ∧ SlArg E W A n c xs good := by
  obtain ⟨a, len, cap, rfl⟩ := okWide_slice ht hv
  obtain ⟨fuel, h⟩ := h
  obtain ⟨A, n, c, xs, e, h1, h2, h3, h4⟩ := open_sl E good ht hsz hel h
  exact ⟨A, n, c, xs, by simpa [Value.cells] using e, h1, h2, h3, h4⟩
theorem el_int {e : TypeId} (he : P.underlying e = some (.int .i64)) (fuel : Nat) (cs : List Value) (y : DataW H × List MemPlace) (h : DataW.trod enc P W 0 spare held fuel e cs = some y) :
    ∃ a, cs = elInt.cells a ∧ (-9223372036854775808 ≤ a ∧ a ≤ 9223372036854775807) := by
  obtain ⟨n, rfl, _, hw⟩ := DataW.trod_int he h
  exact ⟨n, rfl, i64_bd hw⟩
theorem el_str {e : TypeId} (he : P.underlying e = some .string) (fuel : Nat) (cs : List Value) (y : DataW H × List MemPlace) (h : DataW.trod enc P W 0 spare held fuel e cs = some y) :
    ∃ a, cs = elStr.cells a ∧ a.size ≤ maxLen := by
  obtain ⟨n, rfl, _, hw⟩ := DataW.trod_string he h
  exact ⟨n, rfl, hw⟩
end
end Go.Proofs.Ytjebihhceechiaa
/- A list of bytes that came in. Conditions: none. -/
namespace Go.Proofs.Ytjebihhceechiaa
open Go.ChangeShapes Go.WideShapes Go.ChangeAt Go.RowKit Go.Deep
/-- A byte in memory. -/
def elU : El Int := ⟨1, fun x => [.int .u8 x], fun _ => rfl, by decide, fun _ u h => by simp at h; subst h; rfl⟩
theorem cellsU : Try.prog.cellsOf 5 = elU.sz := by kernel_rfl
theorem u8_bd {n : Int} (h : (Lit.int .u8 n).wf = true) : 0 ≤ n ∧ n ≤ 255 := by
  simp [Lit.wf, IntKind.min, IntKind.max, IntKind.signed, IntKind.bits] at h; omega
section
variable {H : Type} {enc : TypeId × Value → H} {P : Program} {W : World} {spare : Nat → Bool} {held : Bool}
theorem el_u8 {e : TypeId} (he : P.underlying e = some (.int .u8)) (fuel : Nat) (cs : List Value) (y : DataW H × List MemPlace) (h : DataW.trod enc P W 0 spare held fuel e cs = some y) :
    ∃ a, cs = elU.cells a ∧ (0 ≤ a ∧ a ≤ 255) := by
  obtain ⟨n, rfl, _, hw⟩ := DataW.trod_int he h
  exact ⟨n, rfl, u8_bd hw⟩
/-- The bytes that a law draws from. -/
def BytesArg (W : World) (A : Option Addr) (n c : Nat) (xs : List Int) : Prop := SlArg elU W A n c xs (fun a => 0 ≤ a ∧ a ≤ 255)
set_option maxRecDepth 100000 in
theorem open_bytes {base : Nat} {v : Value} {d : DataW H} {p : List MemPlace} (hv : Value.okWide Try.prog W .any base 36 v) (h : DataW.Trod enc Try.prog W 0 spare held 36 v d p) :
    ∃ A n c xs, v = .slice A n c ∧ BytesArg W A n c xs :=
  open_sl_val elU _ Try.underlying36 cellsU (el_u8 Try.underlying5) hv h
end
end Go.Proofs.Ytjebihhceechiaa
/- The reader of choices of the laws, walked: what it draws lies within its bounds. Conditions: as each states. -/
namespace Go.Proofs.Ytjebihhceechiaa
open Go.RowKit
/-- A reader in the block g, at place K at most. -/
def tCur (A : Option Addr) (n c g K : Nat) : Thing :=
  ⟨fun b => b = g, fun w => ∃ (at_ : Nat) (seed : Int), Blk w g 51 #[.slice A n c, .int .i64 at_, .int .u64 seed] ∧ at_ ≤ K ∧ 0 ≤ seed ∧ seed < 18446744073709551616,
    fun _ _ h _ hb => by obtain ⟨a, s, h1, h2⟩ := h; exact ⟨a, s, (hb g rfl).trans h1, h2⟩, fun _ h b e => by subst e; obtain ⟨a, s, h1, h2⟩ := h; exact h1.lt⟩
section
variable {w0 w : World} {L : List Thing} {A : Option Addr} {n c g K : Nat} {bs : List Int}
theorem tCur_set {w1 w2 : World} (h : Led w0 w1 L) (i : Nat) (hi : L[i]? = some (tCur A n c g K)) {a : Nat} {s : Int} {cur : Array Value} (_hg : Blk w1 g 51 cur)
    (h2 : Blk w2 g 51 #[.slice A n c, .int .i64 a, .int .u64 s]) (ht : Touch (fun b => b = g) w1 w2) (ha : a ≤ K + 1) (h0 : 0 ≤ s) (hs : s < 18446744073709551616) : Led w0 w2 (L.set i (tCur A n c g (K + 1))) :=
  h.touch i hi rfl ht ⟨a, s, h2, ha, h0, hs⟩
theorem u64_bd (x : Int) : 0 ≤ IntKind.u64.wrap x ∧ IntKind.u64.wrap x < 18446744073709551616 := by
  rw [IntKind.wrap_u64]; omega
theorem bits_255 (a : Int) : 0 ≤ Go.bits .and .u64 a 255 ∧ Go.bits .and .u64 a 255 ≤ 255 := by
  have h : Go.bits .and .u64 a 255 = IntKind.u64.wrap ((BitVec.ofInt 64 a &&& BitVec.ofInt 64 255).toNat : Int) := rfl
  rw [h, BitVec.toNat_and]
  have h2 : (BitVec.ofInt 64 a).toNat &&& (BitVec.ofInt 64 255).toNat ≤ 255 := Nat.and_le_right
  generalize (BitVec.ofInt 64 a).toNat &&& (BitVec.ofInt 64 255).toNat = y at *
  rw [IntKind.wrap_u64]
  omega
set_option maxHeartbeats 2000000 in
set_option maxRecDepth 100000 in
theorem next_led (h : Led w0 w L) (i : Nat) (hi : L[i]? = some (tCur A n c g K)) (hb : Sees elU w0 w0.heap.size A n bs) (hbs : ∀ x ∈ bs, 0 ≤ x ∧ x ≤ 255) (hn : n ≤ 1048576) (hK : K ≤ 1099511627776) :
    Calls Try.prog 41 #[.pointer (some ⟨g, 0, none⟩)] w fun e w' => ∃ v : Int, e = .returned (.int .i64 v) ∧ 0 ≤ v ∧ v ≤ 255 ∧ Led w0 w' (L.set i (tCur A n c g (K + 1))) := by
  obtain ⟨a, s, hg, haK, hs0, hs1⟩ := h.get i hi
  have hS := hid (hb.grow h.bl)
  have C0 : ∀ w', Cls w w' → w'.cell? ⟨g, 0, none⟩ = some (.slice A n c) := fun _ h => h.cell (by rw [hg.cell]; rfl)
  have C1 : ∀ w', Cls w w' → w'.cell? ⟨g, 1, none⟩ = some (.int .i64 a) := fun _ h => h.cell (by rw [hg.cell]; rfl)
  have HGB := hid hg
  have HH := hid h
  have HBS := hid hbs
  have hlen := hid hb.len
  by_cases hlt : a < n
  · obtain ⟨b, o, rfl, _, hc⟩ := hS.out.at_ hlt
    obtain ⟨x, hx⟩ : ∃ x, bs[a]? = some x := ⟨bs[a]'(by rw [hlen.out]; exact hlt), List.getElem?_eq_getElem _⟩
    have hcx := hc a x hx 0 _ rfl
    simp only [elU, Nat.mul_one, Nat.add_zero] at hcx
    have C2 : ∀ w', Cls w w' → w'.cell? ⟨b, o + a, none⟩ = some (.int .u8 x) := fun _ h => h.cell hcx
    have hxb := HBS.out x (List.mem_of_getElem? hx)
    have iwx : IntKind.i64.wrap x = x := IntWalk.i64_in _ (by omega)
    have i1 : (a : Int) < (n : Int) := by omega
    clear hcx hc hx hg h hb hbs
    go_enter Try.func41, Try.ntmps41
    go_wp2_with fail
    refine region_cls (by kernel_rfl) (by kernel_rfl) ?_
    repeat (first
      | ((with_reducible refine quiet_pos ?_ (fun K hK => ?_))
         · rfl
         apply Exists.intro
         refine ⟨fun w' hw' => ?_, ?_⟩
         · go_simp
           with_reducible rfl
         simp only [Act.put, List.setIfInBounds_toArray, List.set_cons_zero, List.set_cons_succ]
         refine hK _ ?_; clear hK K)
      | ((with_reducible refine quiet_neg ?_ (fun K hK => ?_))
         · rfl
         simp only [Act.put, List.setIfInBounds_toArray, List.set_cons_zero, List.set_cons_succ]
         refine hK _ ?_; clear hK K))
    with_reducible refine wpQuiet_nil ?_
    intro wz hwz'
    revert wz
    intro wa hwa
    have D0 : ∀ w', Cls wa w' → w'.cell? ⟨g, 0, none⟩ = some (.slice (some ⟨b, o, none⟩) n c) := fun _ h => C0 _ (bl_then hwa h)
    have D1 : ∀ w', Cls wa w' → w'.cell? ⟨g, 1, none⟩ = some (.int .i64 a) := fun _ h => C1 _ (bl_then hwa h)
    have D2 : ∀ w', Cls wa w' → w'.cell? ⟨b, o + a, none⟩ = some (.int .u8 x) := fun _ h => C2 _ (bl_then hwa h)
    clear C0 C1 C2
    go_wp2_with fail
    refine region_cls (by kernel_rfl) (by kernel_rfl) ?_
    repeat (first
      | ((with_reducible refine quiet_pos ?_ (fun K hK => ?_))
         · rfl
         apply Exists.intro
         refine ⟨fun w' hw' => ?_, ?_⟩
         · go_simp
           with_reducible rfl
         simp only [Act.put, List.setIfInBounds_toArray, List.set_cons_zero, List.set_cons_succ]
         refine hK _ ?_; clear hK K)
      | ((with_reducible refine quiet_neg ?_ (fun K hK => ?_))
         · rfl
         simp only [Act.put, List.setIfInBounds_toArray, List.set_cons_zero, List.set_cons_succ]
         refine hK _ ?_; clear hK K))
    with_reducible refine wpQuiet_nil ?_
    intro wz hwz'
    revert wz
    intro wb hwb
    have hwc := bl_then hwa hwb
    clear D0 D1 D2 hwa hwb
    have hgb := HGB.out.below hwc HGB.out.lt
    have HGC := hid hgb
    have HHC := hid (HH.out.step hwc)
    have p0 := hgb.cell 0
    have p1 := hgb.cell 1
    have p2 := hgb.cell 2
    have z1 := hgb.frozen 1
    have z2 := hgb.frozen 2
    simp only [List.getElem?_toArray, List.getElem?_cons_zero, List.getElem?_cons_succ] at p0 p1 p2
    clear hgb hwc
    go_wp2_with fail
    generalize hs2 : IntKind.u64.wrap (IntKind.u64.wrap (IntKind.u64.wrap (s * 6364136223846793005) + x) + 897897) = s2
    have hsb : 0 ≤ s2 ∧ s2 < 18446744073709551616 := by rw [← hs2]; exact u64_bd _
    clear hs2
    have hg2 := (HGC.out.set 1 (.int .i64 ((a : Int) + 1))).set 2 (.int .u64 s2)
    have ht2 : Touch (fun b => b = g) wb ((wb.setCell ⟨g, 1, none⟩ (.int .i64 ((a : Int) + 1))).setCell ⟨g, 2, none⟩ (.int .u64 s2)) := (Touch.set (S := fun b => b = g) wb (p := ⟨g, 1, none⟩) rfl _).trans (Touch.set (S := fun b => b = g) _ (p := ⟨g, 2, none⟩) rfl _)
    have hg3 : Blk ((wb.setCell ⟨g, 1, none⟩ (.int .i64 ((a : Int) + 1))).setCell ⟨g, 2, none⟩ (.int .u64 s2)) g 51 #[.slice (some ⟨b, o, none⟩) n c, .int .i64 ((a : Int) + 1), .int .u64 s2] := hg2
    clear hg2
    generalize ((wb.setCell ⟨g, 1, none⟩ (.int .i64 ((a : Int) + 1))).setCell ⟨g, 2, none⟩ (.int .u64 s2)) = W2 at *
    have HE := hid (tCur_set (s := s2) (a := a + 1) HHC.out i hi HGC.out hg3 ht2 (by omega) hsb.1 hsb.2)
    have E0 : ∀ w', Cls W2 w' → w'.cell? ⟨g, 0, none⟩ = some (.slice (some ⟨b, o, none⟩) n c) := fun _ h => h.cell (by rw [hg3.cell]; rfl)
    have E1 : ∀ w', Cls W2 w' → w'.cell? ⟨g, 1, none⟩ = some (.int .i64 ((a : Int) + 1)) := fun _ h => h.cell (by rw [hg3.cell]; rfl)
    clear hg3 ht2 p0 p1 p2 z1 z2
    have i2 : (a : Int) + 1 ≤ (n : Int) := by omega
    refine region_cls (by kernel_rfl) (by kernel_rfl) ?_
    repeat (first
      | ((with_reducible refine quiet_pos ?_ (fun K hK => ?_))
         · rfl
         apply Exists.intro
         refine ⟨fun w' hw' => ?_, ?_⟩
         · go_simp
           with_reducible rfl
         simp only [Act.put, List.setIfInBounds_toArray, List.set_cons_zero, List.set_cons_succ]
         refine hK _ ?_; clear hK K)
      | ((with_reducible refine quiet_neg ?_ (fun K hK => ?_))
         · rfl
         simp only [Act.put, List.setIfInBounds_toArray, List.set_cons_zero, List.set_cons_succ]
         refine hK _ ?_; clear hK K))
    with_reducible refine wpQuiet_nil ?_
    intro wz hwz'
    go_wp2_with fail
    go_ret
    exact ⟨x, rfl, hxb.1, hxb.2, HE.out.step hwz'⟩
  · have i1 : ¬ (a : Int) < (n : Int) := by omega
    clear hg h hb hbs
    go_enter Try.func41, Try.ntmps41
    go_wp2_with fail
    refine region_cls (by kernel_rfl) (by kernel_rfl) ?_
    repeat (first
      | ((with_reducible refine quiet_pos ?_ (fun K hK => ?_))
         · rfl
         apply Exists.intro
         refine ⟨fun w' hw' => ?_, ?_⟩
         · go_simp
           with_reducible rfl
         simp only [Act.put, List.setIfInBounds_toArray, List.set_cons_zero, List.set_cons_succ]
         refine hK _ ?_; clear hK K)
      | ((with_reducible refine quiet_neg ?_ (fun K hK => ?_))
         · rfl
         simp only [Act.put, List.setIfInBounds_toArray, List.set_cons_zero, List.set_cons_succ]
         refine hK _ ?_; clear hK K))
    with_reducible refine wpQuiet_nil ?_
    intro wz hwz'
    revert wz
    intro wb hwc
    clear C0 C1
    have hgb := HGB.out.below hwc HGB.out.lt
    have HGC := hid hgb
    have HHC := hid (HH.out.step hwc)
    have p0 := hgb.cell 0
    have p1 := hgb.cell 1
    have p2 := hgb.cell 2
    have z1 := hgb.frozen 1
    have z2 := hgb.frozen 2
    simp only [List.getElem?_toArray, List.getElem?_cons_zero, List.getElem?_cons_succ] at p0 p1 p2
    clear hgb hwc
    go_wp2_with fail
    generalize hs2 : IntKind.u64.wrap (IntKind.u64.wrap (IntKind.u64.wrap (s * 6364136223846793005)) + 897897) = s2
    have hsb : 0 ≤ s2 ∧ s2 < 18446744073709551616 := by rw [← hs2]; exact u64_bd _
    clear hs2
    have hg2 := (HGC.out.set 1 (.int .i64 ((a : Int) + 1))).set 2 (.int .u64 s2)
    have ht2 : Touch (fun b => b = g) wb ((wb.setCell ⟨g, 1, none⟩ (.int .i64 ((a : Int) + 1))).setCell ⟨g, 2, none⟩ (.int .u64 s2)) := (Touch.set (S := fun b => b = g) wb (p := ⟨g, 1, none⟩) rfl _).trans (Touch.set (S := fun b => b = g) _ (p := ⟨g, 2, none⟩) rfl _)
    have hg3 : Blk ((wb.setCell ⟨g, 1, none⟩ (.int .i64 ((a : Int) + 1))).setCell ⟨g, 2, none⟩ (.int .u64 s2)) g 51 #[.slice A n c, .int .i64 ((a : Int) + 1), .int .u64 s2] := hg2
    clear hg2
    generalize ((wb.setCell ⟨g, 1, none⟩ (.int .i64 ((a : Int) + 1))).setCell ⟨g, 2, none⟩ (.int .u64 s2)) = W2 at *
    have HE := hid (tCur_set (s := s2) (a := a + 1) HHC.out i hi HGC.out hg3 ht2 (by omega) hsb.1 hsb.2)
    have E0 : ∀ w', Cls W2 w' → w'.cell? ⟨g, 0, none⟩ = some (.slice A n c) := fun _ h => h.cell (by rw [hg3.cell]; rfl)
    have E1 : ∀ w', Cls W2 w' → w'.cell? ⟨g, 1, none⟩ = some (.int .i64 ((a : Int) + 1)) := fun _ h => h.cell (by rw [hg3.cell]; rfl)
    have E2 : ∀ w', Cls W2 w' → w'.cell? ⟨g, 2, none⟩ = some (.int .u64 s2) := fun _ h => h.cell (by rw [hg3.cell]; rfl)
    clear hg3 ht2 p0 p1 p2 z1 z2
    have i2 : ¬ (a : Int) + 1 ≤ (n : Int) := by omega
    refine region_cls (by kernel_rfl) (by kernel_rfl) ?_
    repeat (first
      | ((with_reducible refine quiet_pos ?_ (fun K hK => ?_))
         · rfl
         apply Exists.intro
         refine ⟨fun w' hw' => ?_, ?_⟩
         · go_simp
           with_reducible rfl
         simp only [Act.put, List.setIfInBounds_toArray, List.set_cons_zero, List.set_cons_succ]
         refine hK _ ?_; clear hK K)
      | ((with_reducible refine quiet_neg ?_ (fun K hK => ?_))
         · rfl
         simp only [Act.put, List.setIfInBounds_toArray, List.set_cons_zero, List.set_cons_succ]
         refine hK _ ?_; clear hK K))
    with_reducible refine wpQuiet_nil ?_
    intro wz hwz'
    have r2 := E2 wz hwz'
    clear E0 E1 E2
    have hb5 := bits_255 (s2 / 1099511627776)
    have iw := IntWalk.wrap64_in (Go.bits .and .u64 (s2 / 1099511627776) 255) (by omega)
    have HB5 := hid hb5
    have IW := hid iw
    clear hb5 iw
    go_wp2_with fail
    go_ret
    exact ⟨Go.bits .and .u64 (s2 / 1099511627776) 255, by rw [IW.out]; rfl, HB5.out.1, HB5.out.2, HE.out.step hwz'⟩
set_option maxHeartbeats 2000000 in
set_option maxRecDepth 100000 in
theorem pick_led (h : Led w0 w L) (i : Nat) (hi : L[i]? = some (tCur A n c g K)) (hb : Sees elU w0 w0.heap.size A n bs) (hbs : ∀ x ∈ bs, 0 ≤ x ∧ x ≤ 255) (hn : n ≤ 1048576) (hK : K + 1 ≤ 1099511627776) (m : Int) (hm : 0 ≤ m) (hm2 : m ≤ 1048576) :
    Calls Try.prog 35 #[.pointer (some ⟨g, 0, none⟩), .int .i64 m] w fun e w' => ∃ v : Int, e = .returned (.int .i64 v) ∧ 0 ≤ v ∧ (1 ≤ m → v < m) ∧ Led w0 w' (L.set i (tCur A n c g (K + 2))) := by
  have hset : ∀ t : Thing, (L.set i t)[i]? = some t := fun t => by rw [List.getElem?_set_self (List.getElem?_eq_some_iff.1 hi).1]
  have hweak : ∀ (J : Nat) W, Led w0 W (L.set i (tCur A n c g J)) → J ≤ K + 2 → Led w0 W (L.set i (tCur A n c g (K + 2))) := fun J W hl hJ => by
    have h2 := hl.touch i (hset _) (t' := tCur A n c g (K + 2)) rfl (Touch.refl _ _) (by obtain ⟨a, s, h1, h2, h3⟩ := hl.get i (hset _); exact ⟨a, s, h1, by omega, h3⟩)
    rwa [List.set_set] at h2
  by_cases h1 : m ≤ 1
  · have H0 : Hid (Led w0 w (L.set i (tCur A n c g (K + 2)))) := by
      refine hweak K w ?_ (by omega)
      have : L.set i (tCur A n c g K) = L := by
        obtain ⟨hl2, he⟩ := List.getElem?_eq_some_iff.1 hi
        rw [← he]; exact List.set_getElem_self hl2
      rw [this]; exact h
    clear hset hweak h hb hbs
    go_enter Try.func35, Try.ntmps35
    go_wp2_with fail
    go_ret
    exact ⟨0, rfl, by decide, fun _ => by omega, H0.out⟩
  · have HW := hid hweak
    have HN := hid (fun (J : Nat) W (hl : Led w0 W (L.set i (tCur A n c g J))) (hJ : J ≤ 1099511627776) => next_led (i := i) hl (hset _) hb hbs hn hJ)
    have HN0 := hid (next_led h i hi hb hbs hn (by omega))
    clear hset hweak h hb hbs
    by_cases h2 : m > 200
    · go_enter Try.func35, Try.ntmps35
      go_wp2_with fail
      refine HN0.out.mono ?_
      rintro e w1 ⟨x, rfl, hx0, hx1, hL1⟩
      have HL1 := hid hL1
      clear hL1
      go_wp2_with fail
      refine (HN.out _ _ HL1.out (by omega)).mono ?_
      rintro e w2 ⟨y, rfl, hy0, hy1, hL2⟩
      rw [List.set_set] at hL2
      have HL2 := hid hL2
      have hmod : 0 ≤ (x * 256 + y) % m ∧ (x * 256 + y) % m < m := ⟨Int.emod_nonneg _ (by omega), Int.emod_lt_of_pos _ (by omega)⟩
      have HM := hid hmod
      clear hL2 hmod HL1
      go_wp2_with fail
      go_ret
      exact ⟨_, rfl, HM.out.1, fun _ => HM.out.2, HL2.out⟩
    · go_enter Try.func35, Try.ntmps35
      go_wp2_with fail
      refine HN0.out.mono ?_
      rintro e w1 ⟨x, rfl, hx0, hx1, hL1⟩
      have HL1 := hid (HW.out _ _ hL1 (by omega))
      have hmod : 0 ≤ x % m ∧ x % m < m := ⟨Int.emod_nonneg _ (by omega), Int.emod_lt_of_pos _ (by omega)⟩
      have HM := hid hmod
      clear hL1 hmod
      go_wp2_with fail
      go_ret
      exact ⟨_, rfl, HM.out.1, fun _ => HM.out.2, HL1.out⟩
set_option maxHeartbeats 1000000 in
set_option maxRecDepth 100000 in
theorem one_led (h : Led w0 w L) (i : Nat) (hi : L[i]? = some (tCur A n c g K)) (hb : Sees elU w0 w0.heap.size A n bs) (hbs : ∀ x ∈ bs, 0 ≤ x ∧ x ≤ 255) (hn : n ≤ 1048576) (hK : K + 1 ≤ 1099511627776) (m : Int) (hm : 0 ≤ m) (hm2 : m ≤ 1048576) :
    Calls Try.prog 36 #[.pointer (some ⟨g, 0, none⟩), .int .i64 m] w fun e w' => ∃ v : Bool, e = .returned (.bool v) ∧ Led w0 w' (L.set i (tCur A n c g (K + 2))) := by
  have HP := hid (pick_led h i hi hb hbs hn hK m hm hm2)
  clear h hb hbs
  go_enter Try.func36, Try.ntmps36
  go_wp2_with fail
  refine HP.out.mono ?_
  rintro e w1 ⟨x, rfl, hx0, hx1, hL1⟩
  have HL1 := hid hL1
  clear hL1 hx1
  go_wp2_with fail
  go_ret
  exact ⟨_, rfl, HL1.out⟩
set_option maxHeartbeats 1000000 in
set_option maxRecDepth 100000 in
theorem of_led {m cc : Nat} {X : Option Addr} {xs : List ByteArray} (h : Led w0 w L) (i : Nat) (hi : L[i]? = some (tCur A n c g K)) (hb : Sees elU w0 w0.heap.size A n bs) (hbs : ∀ x ∈ bs, 0 ≤ x ∧ x ≤ 255) (hn : n ≤ 1048576) (hK : K + 1 ≤ 1099511627776)
    (hX : ∀ w', Led w0 w' (L.set i (tCur A n c g (K + 2))) → Sees elStr w' w'.heap.size X m xs) (hm : 1 ≤ m) (hm2 : m ≤ 1048576) :
    Calls Try.prog 34 #[.pointer (some ⟨g, 0, none⟩), .slice X m cc] w fun e w' => ∃ x, x ∈ xs ∧ e = .returned (.string x) ∧ Led w0 w' (L.set i (tCur A n c g (K + 2))) := by
  have HP := hid (pick_led h i hi hb hbs hn hK (m : Int) (by omega) (by omega))
  have HX := hid hX
  clear h hb hbs hX
  go_enter Try.func34, Try.ntmps34
  go_wp2_with fail
  refine HP.out.mono ?_
  rintro e w1 ⟨v, rfl, hx0, hx1, hL1⟩
  have hx2 := hx1 (by omega)
  have hs := HX.out _ hL1
  have HL1 := hid hL1
  obtain ⟨k, rfl⟩ : ∃ k : Nat, v = (k : Int) := ⟨v.toNat, by omega⟩
  obtain ⟨x, hxk⟩ : ∃ x, xs[k]? = some x := ⟨xs[k]'(by rw [hs.len]; omega), List.getElem?_eq_getElem _⟩
  obtain ⟨b, o, rfl, _, hc⟩ := hs.at_ (k := k) (by omega)
  have hcx := hc k x hxk 0 _ rfl
  simp only [elStr, Nat.mul_one, Nat.add_zero] at hcx
  have HX2 := hid (List.mem_of_getElem? hxk)
  clear hL1 hx1 hc hs hxk HX
  go_wp2_with fail
  go_ret
  exact ⟨x, HX2.out, rfl, HL1.out⟩
end
end Go.Proofs.Ytjebihhceechiaa
/- The drawn strings of the laws: any1, DrawSplitString, DrawJoinStrings, DrawLessString. Conditions: at most 65536 bytes to draw from. -/
namespace Go.Proofs.Ytjebihhceechiaa
open Go.RowKit
theorem sees_strs {w : World} {g : Nat} {e : TypeId} (xs : List ByteArray) (h : Blk w g e (xs.map Value.string).toArray) : Sees elStr w w.heap.size (some ⟨g, 0, none⟩) xs.length xs := by
  refine ⟨rfl, .inr ⟨g, 0, rfl, h.lt, fun k x hx j u hu => ?_⟩⟩
  have hu' : [Value.string x][j]? = some u := hu
  match j, hu' with
  | 0, hu' =>
    simp at hu'; subst hu'
    have e : 0 + k * elStr.sz + 0 = k := by show 0 + k * 1 + 0 = k; omega
    rw [e, h.cell, List.getElem?_toArray, List.getElem?_map, hx]
    rfl
  | j + 1, hu' => simp at hu'
section
variable {w0 w : World} {L : List Thing} {A : Option Addr} {n c g K : Nat} {bs : List Int}
theorem Led.cur (h : Led w0 w L) (g : Nat) (hg : g = w.heap.size) (A : Option Addr) (n c : Nat) : Led w0 (w.alloc (.cells #[.slice A n c, .int .i64 0, .int .u64 0] 51)) (tCur A n c g 0 :: L) := by
  subst hg
  exact h.put (bl_alloc (Below.refl _ _) _) _ (fun b e => by rw [e]; exact Nat.le_refl _) ⟨0, 0, Blk.new _ _ _, Nat.le_refl _, by decide, by decide⟩
/-- One of some texts, of a block of their own. -/
theorem of_blk_led (xs : List ByteArray) (h : Led w0 w L) (i : Nat) (hi : L[i]? = some (tCur A n c g K)) (hb : Sees elU w0 w0.heap.size A n bs) (hbs : ∀ x ∈ bs, 0 ≤ x ∧ x ≤ 255) (hn : n ≤ 1048576) (hK : K + 1 ≤ 1099511627776) (hm : 1 ≤ xs.length) (hm2 : xs.length ≤ 1048576) (cc b : Nat) (hb2 : b = w.heap.size) (e : TypeId) :
    Calls Try.prog 34 #[.pointer (some ⟨g, 0, none⟩), .slice (some ⟨b, 0, none⟩) xs.length cc] (w.alloc (.cells (xs.map Value.string).toArray e)) fun e w' => ∃ x, x ∈ xs ∧ e = .returned (.string x) ∧ Led w0 w' (L.set i (tCur A n c g (K + 2))) := by
  have h1 := h.blk_ b hb2 e (xs.map Value.string).toArray
  refine (of_led (xs := xs) (cc := cc) h1 (i + 1) (by simpa using hi) hb hbs hn hK (fun w' hl => sees_strs xs (hl.get 0 rfl)) hm hm2).mono ?_
  rintro e w' ⟨x, hx, he, hl⟩
  exact ⟨x, hx, he, hl.drop 1⟩
def any1L : List ByteArray := [⟨#[]⟩, ⟨#[97]⟩, ⟨#[97, 44, 98]⟩, ⟨#[115, 111, 109, 101, 32, 119, 111, 114, 100, 115]⟩, ⟨#[120, 35, 121]⟩, ⟨#[45, 49, 50]⟩, ⟨#[0, 255]⟩, ⟨#[44, 44]⟩, ⟨#[48]⟩]
set_option maxHeartbeats 1000000 in
set_option maxRecDepth 100000 in
theorem any1_led (h : Led w0 w L) (i : Nat) (hi : L[i]? = some (tCur A n c g K)) (hb : Sees elU w0 w0.heap.size A n bs) (hbs : ∀ x ∈ bs, 0 ≤ x ∧ x ≤ 255) (hn : n ≤ 1048576) (hK : K + 1 ≤ 1099511627776) :
    Calls Try.prog 33 #[.pointer (some ⟨g, 0, none⟩)] w fun e w' => ∃ x : ByteArray, x.size ≤ 10 ∧ e = .returned (.string x) ∧ Led w0 w' (L.set i (tCur A n c g (K + 2))) := by
  have HP := hid (of_blk_led any1L h i hi hb hbs hn hK (by decide) (by decide) 9 _ rfl 9)
  clear h hb hbs
  go_enter Try.func33, Try.ntmps33
  go_wp2_with fail
  refine Calls.mono HP.out ?_
  rintro e w1 ⟨x, hx, rfl, hL1⟩
  have HL1 := hid hL1
  have hxs : x.size ≤ 10 := by
    have : ∀ x ∈ any1L, x.size ≤ 10 := by decide
    exact this x hx
  clear hL1 hx
  go_wp2_with fail
  go_ret
  exact ⟨x, hxs, rfl, HL1.out⟩
set_option maxHeartbeats 1000000 in
set_option maxRecDepth 100000 in
theorem drawSplit_any (w : World) (hb : Sees elU w w.heap.size A n bs) (hbs : ∀ x ∈ bs, 0 ≤ x ∧ x ≤ 255) (hn : n ≤ 1048576) :
    Calls Try.prog 23 #[.slice A n c] w fun e w' => ∃ x y : ByteArray, x.size ≤ 10 ∧ y.size ≤ 2 ∧ e = .returned (.tuple #[.string x, .string y]) ∧ Below w.heap.size w w' := by
  have HC := hid ((Led.nil w).cur w.heap.size rfl A n c)
  have HB := hid hb
  have HBS := hid hbs
  clear hb hbs
  go_enter Try.func23, Try.ntmps23
  go_wp2_with fail
  refine (any1_led HC.out 0 rfl HB.out HBS.out hn (by decide)).mono ?_
  rintro e w1 ⟨x, hx, rfl, h1⟩
  have H1 := hid h1
  have HP := hid (of_blk_led [⟨#[44]⟩, ⟨#[44]⟩, ⟨#[32]⟩, ⟨#[]⟩, ⟨#[44, 44]⟩] H1.out 0 rfl HB.out HBS.out hn (by decide) (by decide) (by decide) 5 _ rfl 9)
  clear h1
  go_wp2_with fail
  refine Calls.mono HP.out ?_
  rintro e w2 ⟨y, hy, rfl, h2⟩
  have H2 := hid h2
  have hys : y.size ≤ 2 := by
    have : ∀ y ∈ ([⟨#[44]⟩, ⟨#[44]⟩, ⟨#[32]⟩, ⟨#[]⟩, ⟨#[44, 44]⟩] : List ByteArray), y.size ≤ 2 := by decide
    exact this y hy
  clear h2 hy
  go_wp2_with fail
  go_ret2
  exact ⟨x, y, hx, hys, rfl, H2.out.bl⟩
set_option maxHeartbeats 1000000 in
set_option maxRecDepth 100000 in
theorem drawLess_any (w : World) (hb : Sees elU w w.heap.size A n bs) (hbs : ∀ x ∈ bs, 0 ≤ x ∧ x ≤ 255) (hn : n ≤ 1048576) :
    Calls Try.prog 25 #[.slice A n c] w fun e w' => ∃ x y : ByteArray, x.size ≤ 10 ∧ y.size ≤ 10 ∧ e = .returned (.tuple #[.string x, .string y]) ∧ Below w.heap.size w w' := by
  have HC := hid ((Led.nil w).cur w.heap.size rfl A n c)
  have HB := hid hb
  have HBS := hid hbs
  clear hb hbs
  go_enter Try.func25, Try.ntmps25
  go_wp2_with fail
  refine (any1_led HC.out 0 rfl HB.out HBS.out hn (by decide)).mono ?_
  rintro e w1 ⟨x, hx, rfl, h1⟩
  have H1 := hid h1
  clear h1
  go_wp2_with fail
  refine (any1_led H1.out 0 rfl HB.out HBS.out hn (by decide)).mono ?_
  rintro e w2 ⟨y, hy, rfl, h2⟩
  have H2 := hid h2
  clear h2
  go_wp2_with fail
  go_ret2
  exact ⟨x, y, hx, hy, rfl, H2.out.bl⟩
theorem u8_info : (Try.prog.info? 5).map (fun i => (i.zero, i.size, i.bytes)) = some (some (.int .u8 0), 1, 1) := by kernel_rfl
set_option maxHeartbeats 2000000 in
set_option maxRecDepth 100000 in
theorem drawJoin_any (w : World) (hb : Sees elU w w.heap.size A n bs) (hbs : ∀ x ∈ bs, 0 ≤ x ∧ x ≤ 255) (hn : n ≤ 1048576) :
    Calls Try.prog 24 #[.slice A n c] w fun e w' => ∃ (v : Value) (xs : List ByteArray) (y : ByteArray), xs.length ≤ 5 ∧ (∀ x ∈ xs, x.size ≤ 4009) ∧ y.size ≤ 2 ∧ e = .returned (.tuple #[v, .string y]) ∧ Owns elStr w' w.heap.size 9 v xs ∧ Below w.heap.size w w' := by
  have hC := ((Led.nil w).cur w.heap.size rfl A n c).empty elStr 9 (w.heap.size + 1) (by simp) w.heap.size (by omega)
  have HC := hid hC
  have HB := hid hb
  have HBS := hid hbs
  obtain ⟨i0, hi, hz0, hz1, hz2⟩ := info_parts str_info
  clear hb hbs hC
  go_enter Try.func24, Try.ntmps24
  go_wp2_with fail
  refine (pick_led HC.out 1 rfl HB.out HBS.out hn (by decide) 4 (by decide) (by decide)).mono ?_
  rintro e w1 ⟨m, rfl, hm0, hm1, h1⟩
  have hm2 := hm1 (by decide)
  have H1 := hid h1
  clear h1 hm1
  go_wp2_with fail
  go_loopw [5, 7] (fun v i wr => ∃ (k K : Nat) (xs : List ByteArray), (k : Int) ≤ m ∧ i = .int .i64 k ∧ xs.length = k ∧ K ≤ 100 * k + 100 ∧ Hid (∀ x ∈ xs, x.size ≤ 4009) ∧ Hid (Led w wr [tOwns elStr w.heap.size 9 v xs, tCur A n c w.heap.size K])) (fun _ i _ => 4 - (intOf i).toNat)
  case atStart => exact ⟨0, 0 + 2, [], by omega, rfl, rfl, by decide, (fun x hx => by cases hx), H1⟩
  case round =>
    clear H1
    obtain ⟨k, K, xs, hk, rfl, hl, hK, HX, HS⟩ := hrel
    obtain ⟨A3, c3, rfl, _⟩ := HS.out.form 0 rfl
    by_cases hlt : (k : Int) < m
    · have HP := hid (any1_led HS.out 1 rfl HB.out HBS.out hn (by omega))
      have HL := hid hl
      clear hl
      go_wp2_with fail
      refine HP.out.mono ?_
      rintro e w2 ⟨x, hx, rfl, h2⟩
      have H2 := hid (Led.blk_ h2 w2.heap.size rfl 9 #[.string x])
      clear h2 HP
      go_wp2_with (first
        | (at_builtin; refine wpList_append_led rfl _ _ 27 rfl H2.out 1 rfl Try.underlying27 hi hz0 hz1 (by rw [hz2]; decide) rfl rfl rfl (show Sees elStr _ _ _ 1 [x] from sees_new elStr _ _ _ _ rfl) (by have := HL.out; omega) H2.out.bl.size ?_)
        | go_in)
      intro A4 c4 w4 h4
      have H4 := hid (h4.drop 1)
      have HX2 : Hid (∀ y ∈ xs ++ [x], y.size ≤ 4009) := fun y hy => by
        rcases List.mem_append.1 hy with hy | hy
        · exact HX.out y hy
        · rw [List.mem_singleton.1 hy]; omega
      have hl4 : (xs ++ [x]).length = k + 1 := by rw [List.length_append, HL.out]; rfl
      clear h4 H2
      go_wp2
      go_roundw
      case rel => exact ⟨k + 1, _, xs ++ [x], by omega, by go_num, hl4, by omega, HX2, H4⟩
      case measure => simp [intOf]; omega
    · have hk3 : k ≤ 4 := by omega
      have HP := hid (one_led HS.out 1 rfl HB.out HBS.out hn (by omega) 20 (by decide) (by decide))
      have HL := hid hl
      clear hl
      go_wp2_with fail
      refine HP.out.mono ?_
      rintro e w2 ⟨t, rfl, h2⟩
      have H2 := hid h2
      clear h2 HP HS
      cases t
      · have HQ := hid (of_blk_led [⟨#[44]⟩, ⟨#[59]⟩, ⟨#[59]⟩, ⟨#[]⟩, ⟨#[97, 98]⟩] H2.out 1 rfl HB.out HBS.out hn (by omega) (by decide) (by decide) 5 _ rfl 9)
        go_wp2_with fail
        refine Calls.mono HQ.out ?_
        rintro e w3 ⟨y, hy, rfl, h3⟩
        have H3 := hid h3
        have hys : y.size ≤ 2 := by
          have : ∀ y ∈ ([⟨#[44]⟩, ⟨#[59]⟩, ⟨#[59]⟩, ⟨#[]⟩, ⟨#[97, 98]⟩] : List ByteArray), y.size ≤ 2 := by decide
          exact this y hy
        clear h3 hy HQ
        go_wp2_with fail
        go_ret2
        exact ⟨_, xs, y, by have := HL.out; omega, HX.out, hys, rfl, H3.out.own 0 rfl, H3.out.bl⟩
      · have HP := hid (pick_led H2.out 1 rfl HB.out HBS.out hn (by omega) 20 (by decide) (by decide))
        go_wp2_with fail
        refine HP.out.mono ?_
        rintro e w3 ⟨p, rfl, hp0, hp1, h3⟩
        have hp2 := hp1 (by decide)
        obtain ⟨q, hq⟩ : ∃ q : Nat, 3990 + p = (q : Int) := ⟨(3990 + p).toNat, by omega⟩
        have hq2 : q ≤ 4009 := by omega
        obtain ⟨j0, hj, hy0, hy1, hy2⟩ := info_parts u8_info
        have hmk := fun W => make_n (P := Try.prog) Try.underlying36 hj hy0 (n := q) (by rw [hy2]; omega) (by omega) W
        rw [hy1] at hmk
        have H3 := hid (Led.blk_ h3 w3.heap.size rfl 5 (madeCells #[.int .u8 0] q))
        have hcv := run_convert_bytes_back (P := Try.prog) (w3.alloc (.cells (madeCells #[.int .u8 0] q) 5)) 36 9 5 ⟨w3.heap.size, 0, none⟩ q (List.replicate q 0) Try.underlying36 Try.underlying5 Try.underlying9 (fun j hj => by
          have hjq : j < q := by simpa using hj
          have hb : Blk (w3.alloc (.cells (madeCells #[.int .u8 0] q) 5)) w3.heap.size 5 (madeCells #[.int .u8 0] q) := Blk.new _ _ _
          have e : (⟨w3.heap.size, 0, none⟩ : Addr).add j = ⟨w3.heap.size, j, none⟩ := by simp [Addr.add]; intro h; exact h.symm
          rw [e, hb.cell, List.getElem_replicate]
          simp [madeCells, hjq, Nat.mod_one])
        rw [List.length_replicate] at hcv
        obtain ⟨Z, hZ⟩ : ∃ Z : ByteArray, Z = ⟨(List.replicate q (0 : UInt8)).toArray⟩ := ⟨_, rfl⟩
        rw [← hZ] at hcv
        have hZs : Z.size ≤ 4009 := by rw [hZ]; show (List.replicate q (0 : UInt8)).toArray.size ≤ 4009; simp; exact hq2
        clear h3 hp1 HP H2 hj hy0 hy1 hy2 hZ
        have H4 := hid (Led.blk_ H3.out (w3.heap.size + 1) (by simp) 9 #[.string Z])
        go_wp2_with (first
          | (at_builtin; refine wpList_append_led rfl _ _ 27 rfl H4.out 2 rfl Try.underlying27 hi hz0 hz1 (by rw [hz2]; decide) rfl rfl rfl (show Sees elStr _ _ _ 1 [Z] from sees_new elStr _ _ _ _ (by simp)) (by have := HL.out; omega) H4.out.bl.size ?_)
          | go_in)
        intro A5 c5 w5 h5
        have H5 := hid (h5.drop 2)
        have HX2 : Hid (∀ y ∈ xs ++ [Z], y.size ≤ 4009) := fun y hy => by
          rcases List.mem_append.1 hy with hy | hy
          · exact HX.out y hy
          · rw [List.mem_singleton.1 hy]; exact hZs
        have HQ := hid (of_blk_led [⟨#[44]⟩, ⟨#[59]⟩, ⟨#[59]⟩, ⟨#[]⟩, ⟨#[97, 98]⟩] H5.out 1 rfl HB.out HBS.out hn (by omega) (by decide) (by decide) 5 _ rfl 9)
        clear h5 H4 H3 hcv hmk
        go_wp2_with fail
        refine Calls.mono HQ.out ?_
        rintro e w6 ⟨y, hy, rfl, h6⟩
        have H6 := hid h6
        have hys : y.size ≤ 2 := by
          have : ∀ y ∈ ([⟨#[44]⟩, ⟨#[59]⟩, ⟨#[59]⟩, ⟨#[]⟩, ⟨#[97, 98]⟩] : List ByteArray), y.size ≤ 2 := by decide
          exact this y hy
        clear h6 hy HQ
        go_wp2_with fail
        go_ret2
        exact ⟨_, xs ++ [Z], y, by have := HL.out; simp; omega, HX2.out, hys, rfl, H6.out.own 0 rfl, H6.out.bl⟩
end
end Go.Proofs.Ytjebihhceechiaa
/- FnSplitJoin, walked. Conditions: none. -/
namespace Go.Proofs.Ytjebihhceechiaa
open Go.RowKit
theorem bytesLess_asym : ∀ (a b : List UInt8), Op.bytesLess a b = true → Op.bytesLess b a = false := by
  intro a
  induction a with
  | nil => intro b h; cases b <;> simp [Op.bytesLess] at h ⊢
  | cons x a ih =>
    intro b h
    cases b with
    | nil => simp [Op.bytesLess] at h
    | cons y b =>
      unfold Op.bytesLess at h ⊢
      rw [Bool.or_eq_true, decide_eq_true_eq, Bool.and_eq_true, beq_iff_eq] at h
      rw [Bool.or_eq_false_iff, decide_eq_false_iff_not, Bool.and_eq_false_iff]
      rcases h with h | ⟨h, h2⟩
      · have h1 := UInt8.lt_iff_toNat_lt.1 h
        refine ⟨fun h3 => by have := UInt8.lt_iff_toNat_lt.1 h3; omega, .inl ?_⟩
        rw [beq_eq_false_iff_ne]
        intro e; rw [e] at h1; omega
      · subst h
        exact ⟨fun h3 => by have := UInt8.lt_iff_toNat_lt.1 h3; omega, .inr (ih b h2)⟩
set_option maxHeartbeats 4000000 in
set_option maxRecDepth 100000 in
theorem walkSplitJoin (w : World) {A : Option Addr} {n c : Nat} {bs : List Int} (hA : BytesArg w A n c bs) : Calls Try.prog 8 #[.slice A n c] w fun e w' => e = .returned (.bool true) ∧ Below w.heap.size w w' := by
  obtain ⟨hcc, hcm, hS, hx⟩ := hA
  unfold maxLen at hcm
  by_cases hn : n ≤ 65536
  · have HS := hid hS
    have HX := hid hx
    have H0 := hid (Led.nil w)
    clear hS hx
    go_enter Try.func8, Try.ntmps8
    go_wp2_with fail
    go_in
    go_wp2_with fail
    refine (drawSplit_any _ HS.out HX.out (by omega)).mono ?_
    rintro e w1 ⟨s, sep, hs, hp, rfl, hb1⟩
    have H1 := hid (H0.out.step hb1)
    clear hb1 H0
    obtain ⟨ok, hok⟩ : ∃ k, splOk s sep = k := ⟨_, rfl⟩
    obtain ⟨xs, hxs⟩ : ∃ xs, splR s sep = xs := ⟨_, rfl⟩
    have P2 := fun w' => implSplit_any s sep w' (by omega) (by omega)
    rw [hok, hxs] at P2
    have HP2 := hid P2
    have HOK := hid hok
    have HXS := hid hxs
    clear P2 hok hxs
    go_wp2_with fail
    refine (HP2.out _).mono ?_
    rintro e w2 ⟨v2, rfl, ho2, hb2⟩
    obtain ⟨A2, c2, rfl, hc2, _⟩ := ho2.form
    have H2 := hid (H1.out.owns hb2 ho2)
    have HS2 : Hid (Sees elU w2 w2.heap.size A n bs) := (HS.out.grow H2.out.bl).more H2.out.bl.size
    clear hb2 ho2 H1 HP2
    go_wp2_with fail
    refine (drawJoin_any _ HS2.out HX.out (by omega)).mono ?_
    rintro e w3 ⟨v3, ks, mark, hkl, hks, hmk, rfl, ho3, hb3⟩
    obtain ⟨A3, c3, rfl, hc3, _⟩ := ho3.form
    have H3 := hid (H2.out.owns hb3 ho3)
    have HSS3 := hid (Owns.sees ho3)
    have HKS : Hid (∀ x ∈ ks, x.size ≤ 1048576) := fun x hx => Nat.le_trans (hks x hx) (by decide)
    obtain ⟨ok3, hok3⟩ : ∃ k, jnOk ks mark = k := ⟨_, rfl⟩
    obtain ⟨js, hjs⟩ : ∃ k, jnS ks mark = k := ⟨_, rfl⟩
    have P3 := fun (w' : World) (h : Sees elStr w' w'.heap.size A3 ks.length ks) => implJoin_any (cc := c3) mark w' h hc3 (by omega) HKS.out (by omega)
    have P4 := fun (w' : World) (h : Sees elStr w' w'.heap.size A3 ks.length ks) => specJoin_any (cc := c3) mark w' h (by omega) HKS.out (by omega)
    rw [hok3, hjs] at P3 P4
    have HP3 := hid P3
    have HP4 := hid P4
    clear hb3 ho3 H2 P3 P4 hok3 hjs hks
    go_wp2_with fail
    refine (HP3.out _ HSS3.out).mono ?_
    rintro e w4 ⟨rfl, hb4⟩
    have HSS4 : Hid (Sees elStr w4 w4.heap.size A3 ks.length ks) := (HSS3.out.grow hb4).more hb4.size
    have H4 := hid (H3.out.step hb4)
    clear hb4 HSS3 H3 HP3
    go_wp2_with fail
    refine (HP4.out _ HSS4.out).mono ?_
    rintro e w5 ⟨rfl, hb5⟩
    have H5 := hid (H4.out.step hb5)
    have HS5 : Hid (Sees elU w5 w5.heap.size A n bs) := (HS.out.grow H5.out.bl).more H5.out.bl.size
    clear hb5 HSS4 H4 HP4
    go_wp2_with fail
    refine (drawLess_any _ HS5.out HX.out (by omega)).mono ?_
    rintro e w6 ⟨a, b, ha, hb, rfl, hb6⟩
    have H6 := hid (H5.out.step hb6)
    clear hb6 H5 HS5 HS2
    obtain ⟨la, hla⟩ : ∃ t, Op.bytesLess a.toList b.toList = t := ⟨_, rfl⟩
    obtain ⟨lb, hlb⟩ : ∃ t, Op.bytesLess b.toList a.toList = t := ⟨_, rfl⟩
    have hasym := bytesLess_asym a.toList b.toList
    rw [hla, hlb] at hasym
    have HO := H6.out.own 1 rfl
    obtain ⟨_, _, _, _, _, hss⟩ := HO.form
    cases ok
    · have h1 : ¬ sep.size = 1 := fun e => by
        have := HOK.out
        unfold splOk at this
        rw [decide_eq_true e, decide_eq_true (by omega : s.size ≤ 4000)] at this
        cases this
      have hx0 : xs = [] := by
        rw [← HXS.out]; unfold splR; rw [HOK.out]; rfl
      have e1 : ((sep.size : Int) != 1) = true := by rw [bne_iff_ne]; omega
      subst hx0
      clear h1 hss HO
      cases la <;> cases lb <;> (first | (exfalso; exact absurd (hasym rfl) (by decide)) | skip)
      all_goals
        clear hasym
        cases ok3
      all_goals
        go_wp2_with go_in
        go_ret
        exact ⟨rfl, H6.out.bl⟩
    · have h1 : sep.size = 1 := by
        have := HOK.out
        unfold splOk at this
        rw [Bool.and_eq_true] at this
        exact of_decide_eq_true this.2
      have h0 : 0 < sep.size := by omega
      have hx0 : xs = splA s ((sep[0]'h0).toNat : Int) := by
        rw [← HXS.out]; unfold splR sepB; rw [HOK.out, dif_pos h0]; rfl
      have hj := splA_joinS (c := sep[0]'h0) (s := s) (by omega)
      rw [← hx0] at hj
      have hJ : jnOk xs sep = true ∧ jnS xs sep = s := by
        refine ⟨?_, ?_⟩
        · unfold jnOk sepB; rw [decide_eq_true h1, dif_pos h0, hj.1]; rfl
        · unfold jnS; rw [dif_pos h1, hj.2]
      have hxl := splA_len (s := s) (b := ((sep[0]'h0).toNat : Int))
      rw [← hx0] at hxl
      have hsz : Hid (∀ x ∈ xs, x.size ≤ 1048576) := by
        have hjl := joinK_len (c := sep[0]'h0) (xs := xs) (k := xs.length) hxl.1 (Nat.le_refl _)
        have hok2 := hj.1
        unfold okJ at hok2
        rw [Bool.and_eq_true, decide_eq_true_eq] at hok2
        intro x hx
        obtain ⟨k, hk⟩ := List.getElem?_of_mem hx
        have h3 := lensK_succ hk
        have h4 := lensK_mono (xs := xs) (k := k + 1) (j := xs.length) (List.getElem?_eq_some_iff.1 hk).1
        omega
      have HPJ := hid (implJoin_any (cc := c2) sep w6 hss hc2 (by omega) hsz.out (by omega))
      rw [hJ.1, hJ.2] at HPJ
      have e1 : ((sep.size : Int) != 1) = false := by rw [h1]; rfl
      clear h1 hss HO hj hJ hxl hx0 hsz
      cases la <;> cases lb <;> (first | (exfalso; exact absurd (hasym rfl) (by decide)) | skip)
      all_goals
        clear hasym
        cases ok3
      all_goals
        go_wp2_with (first | (go_at_call 21; refine HPJ.out.mono ?_; rintro e w7 ⟨rfl, hb7⟩) | go_in)
        go_ret
        exact ⟨rfl, bl_then H6.out.bl hb7⟩
  · go_enter Try.func8, Try.ntmps8
    go_wp2_with go_in
    go_ret
    exact ⟨rfl, Below.refl _ _⟩
end Go.Proofs.Ytjebihhceechiaa
