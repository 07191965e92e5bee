/- markText, walked: the letter m and the digits. Conditions: the number is at most 2^40 and a bit. -/
import Derived.Test.YtdnmkcalpfkfhaaRows
import Derived.Test.YtdnmkcalpfkfhaaMem
namespace Go.Proofs.Ytdnmkcalpfkfhaa
open Go.RowKit Go.WideShapes
/-- The digits of k ahead of out, with fuel. -/
def mtGo : Nat → Nat → List UInt8 → List UInt8
  | 0, _, out => out
  | f + 1, k, out => if k = 0 then out else mtGo f (k / 10) (UInt8.ofNat (48 + k % 10) :: out)
theorem mtGo_zero (f : Nat) (out : List UInt8) : mtGo f 0 out = out := by cases f <;> simp [mtGo]
theorem mtGo_succ {f k : Nat} {out : List UInt8} (hk : 0 < k) (hf : k ≤ f) : ∃ f', k / 10 ≤ f' ∧ mtGo f k out = mtGo f' (k / 10) (UInt8.ofNat (48 + k % 10) :: out) := by
  cases f with
  | zero => omega
  | succ f => exact ⟨f, by omega, by rw [mtGo, if_neg (by omega)]⟩
def mtx (k : Nat) : ByteArray := ⟨(109 :: (if k = 0 then [48] else mtGo k k [])).toArray⟩
theorem bytes_cons (c : UInt8) (out : List UInt8) : (⟨#[c]⟩ : ByteArray) ++ ⟨out.toArray⟩ = ⟨(c :: out).toArray⟩ := by
  apply bytes_inj
  simp [ByteArray.data_append]
set_option maxRecDepth 100000 in
theorem markText_any (k : Int) (w : World) (h0 : 0 ≤ k) (h1 : k ≤ 1099512676352) :
    Calls Try.prog 112 #[.int .i64 k] w fun e w' => e = .returned (.string (mtx k.toNat)) ∧ Below w.heap.size w w' := by
  by_cases hz : k = 0
  · subst hz
    go_enter Try.func112, Try.ntmps112
    go_wp2
    go_ret
    exact ⟨rfl, Below.refl _ _⟩
  · have hpos : 0 < k := by omega
    have HM : Hid (mtx k.toNat = ⟨(109 :: mtGo k.toNat k.toNat []).toArray⟩) := by unfold Hid mtx; rw [if_neg (by omega)]
    clear hz
    go_enter Try.func112, Try.ntmps112
    go_wp2
    go_loopw [0, 3] (fun t o wr => ∃ (r f : Nat) (out : List UInt8), t = .int .i64 r ∧ o = .string ⟨out.toArray⟩ ∧ r ≤ 1099512676352 ∧ out.length + r ≤ 1099512676352 ∧ r ≤ f ∧ Hid (mtGo k.toNat k.toNat [] = mtGo f r out) ∧ Below w.heap.size w wr) (fun t _ _ => (intOf t).toNat)
    case atStart => exact ⟨k.toNat, k.toNat, [], by rw [Int.toNat_of_nonneg h0], rfl, by omega, by simp; omega, Nat.le_refl _, rfl, Below.refl _ _⟩
    case round =>
      obtain ⟨r, f, out, rfl, rfl, hr1, hol, hrf, hgo, hb⟩ := hrel
      by_cases hlt : 0 < r
      · obtain ⟨f', hf', hs⟩ := mtGo_succ (out := out) hlt hrf
        have hdig : ((UInt8.ofNat (48 + r % 10)).toNat : Int) = 48 + (r : Int) % 10 := by
          have h9 : (UInt8.ofNat (48 + r % 10)).toNat = 48 + r % 10 := by simp; omega
          rw [h9]; omega
        have hcv := run_convert_bytes_back (P := Try.prog) (wr.alloc (.cells #[.int .u8 (48 + (r : Int) % 10)] 5)) 58 9 5 ⟨wr.heap.size, 0, none⟩ 1 [UInt8.ofNat (48 + r % 10)] Try.underlying58 Try.underlying5 Try.underlying9 (by
          intro j hj
          obtain rfl : j = 0 := by simpa using hj
          simp only [List.getElem_cons_zero, hdig]
          go_simp)
        simp only [List.length_cons, List.length_nil, Nat.zero_add] at hcv
        have HS := hid (hgo.out.trans hs)
        clear hdig hs hgo
        go_wp2
        go_roundw
        case rel => exact ⟨r / 10, f', UInt8.ofNat (48 + r % 10) :: out, by go_num, by rw [show UInt8.ofNat (48 + r % 10) = 48 + UInt8.ofNat (r % 10) by simp]; exact congrArg Value.string (bytes_cons _ _), by omega, by simp only [List.length_cons]; omega, hf', HS, bl_alloc hb _⟩
        case measure => simp [intOf]; omega
      · obtain rfl : r = 0 := by omega
        have HE : Hid (mtx k.toNat = ⟨(109 :: out).toArray⟩) := by have := hgo.out; rw [mtGo_zero] at this; rw [HM.out, this]; rfl
        clear hgo
        go_wp2
        go_ret
        exact ⟨by rw [HE.out, ← bytes_cons]; rfl, hb⟩
end Go.Proofs.Ytdnmkcalpfkfhaa
