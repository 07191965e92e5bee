/- Lemmas and walks that the claim rests on, laid together. Conditions: none. -/
import Derived.Test.YtjklphlgmlomjaaZbdd0ffef8817
import Derived.Test.YtjklphlgmlomjaaZb3df7d58b3d2
import Derived.Laws.CopyOwn
import Derived.Laws.Externs
import Derived.Lib.Overlaps
import Derived.Lib.AppendZeros
import Derived.Lib.AppendZerosOnto
import Derived.Lib.SliceRun
import Derived.Deep.RegionLaw
import Derived.BigQuiet
import Derived.Test.YtjklphlgmlomjaaZca7527469d7d
import Derived.Deep.RegionHeld3
import Derived.Test.YtjklphlgmlomjaaRows
/- slices.Insert of one fiber, walked. Conditions: at most 1048576 fibers. -/
namespace Go.Proofs.Ytjklphlgmlomjaa
open Go.RowKit
theorem splice_get {α : Type} (L : List α) (off : Nat) (cs : List α) (h : off + cs.length ≤ L.length) (q : Nat) :
    (splice L off cs)[q]? = if q < off then L[q]? else if q < off + cs.length then cs[q - off]? else L[q]? := by
  unfold splice
  rw [List.getElem?_append, List.length_take, Nat.min_eq_left (by omega)]
  split
  · rename_i hq
    rw [List.getElem?_take, if_pos hq]
  · rename_i hq
    rw [List.getElem?_append]
    by_cases h2 : q < off + cs.length
    · rw [if_pos (by omega), if_pos h2]
    · rw [if_neg (by omega), if_neg h2, List.getElem?_drop]
      congr 1; omega
theorem touch_row (w : World) (g : Nat) (cs : Array Value) : Touch (fun b => b = g) w (w.setRow g cs) :=
  ⟨rfl, rfl, rfl, by simp [World.setRow], fun k _ hn => setRow_other w g k cs hn⟩
section
variable {P : Program}
/-- copy of elements of sz cells. -/
theorem run_copy_rowK (w : World) (dT sT ty elem : TypeId) (g o dLen dCap : Nat) (a : Addr) (sLen sCap : Nat) (cur : Array Value) (t : TypeId) (cs : List Value) (sz : Nat)
    (hu : P.underlying dT = some (.slice elem)) (hs : (P.info? elem).map (·.size) = some sz)
    (hg : w.heap[g]? = some (.cells cur t (0, 0))) (hn : cs.length = Nat.min sLen dLen * sz)
    (hsrc : ∀ j v, cs[j]? = some v → w.cell? (a.add j) = some v) (hfit : o + cs.length ≤ cur.size) (h1 : ∀ v ∈ cs, v.oneCell' = true) :
    (Builtin.copy_ #[dT, sT] ty #[.slice (some ⟨g, o, none⟩) dLen dCap, .slice (some a) sLen sCap]).run P w =
      .ok (goInt (Nat.min sLen dLen)) (w.setRow g (cur.toList.take o ++ cs ++ cur.toList.drop (o + cs.length)).toArray) := by
  have hl := run_loadCells_list (P := P) w a cs hsrc
  have hst := run_storeCells_at P g o t cs 0 cur w hg (by simpa using hfit) h1
  cases hq : P.info? elem with
  | none => simp [hq] at hs
  | some i =>
    have hi : i.size = sz := by simpa [hq] using hs
    simp [Builtin.copy_, run_underlying hu, Builtin.lenOf, Builtin.firstCells, sizeOf, typeInfo, hq, hi, ← hn, hl, hst]
theorem wp_copyK {o : Oper} {a : Act} {w : World} {K : Act → World → Prop} {Q : Exit → Act → World → Prop} (d s : Operand) (dT sT : TypeId)
    (ho : o.op = .call { callee := .builtin .copy, args := #[d, s], argTypes := #[dT, sT] }) (elem : TypeId) (sz : Nat) (hu : P.underlying dT = some (.slice elem)) (hsz : (P.info? elem).map (·.size) = some sz)
    (g off dLen dCap : Nat) (ad : Addr) (sLen sCap : Nat) (hd : a.eval d = .slice (some ⟨g, off, none⟩) dLen dCap) (hs : a.eval s = .slice (some ad) sLen sCap)
    (cur : List Value) (t : TypeId) (hg : w.heap[g]? = some (.cells cur.toArray t (0, 0))) (cs : List Value) (k : Nat) (hk : Nat.min sLen dLen = k) (hn : cs.length = k * sz)
    (hsrc : ∀ j v, cs[j]? = some v → w.cell? (ad.add j) = some v) (hfit : off + cs.length ≤ cur.length) (h1 : ∀ v ∈ cs, v.oneCell' = true)
    (h : ∀ w', Hid (w'.heap[g]? = some (.cells (splice cur off cs).toArray t (0, 0))) → Touch (fun b => b = g) w w' → K (a.put o.dst (goInt k)) w') : Oper.wp P o a w K Q := by
  subst hk
  have hrun := run_copy_rowK (P := P) w dT sT o.type elem g off dLen dCap ad sLen sCap cur.toArray t cs sz hu hsz hg hn hsrc (by simpa using hfit) h1
  unfold Oper.wp
  simp [execOp, ho, resolve, invoke, builtin, hd, hs, hrun, Result.andThen]
  exact h _ (show _ = _ by simpa [splice] using setRow_heap w g _ _ t _ hg) (by simpa using touch_row w g _)
theorem stepI {ops : Array Oper} {o : Oper} {a : Act} {w : World} {K : Act → World → Prop} {Q : Exit → Act → World → Prop} {E : Prop} (hgd : o.guard = none) (h : Oper.wp P o a w K Q) : if Region.wanted o (yielded ops a.tmps) = true then Oper.wp P o a w K Q else E := by
  rw [if_pos (by simp [Region.wanted, hgd])]; exact h
theorem wpList_copyK {ops : Array Oper} {rest : List Oper} {o : Oper} {a : Act} {w : World} {Q : Exit → Act → World → Prop} (hgd : o.guard = none) (d s : Operand) (dT sT : TypeId)
    (ho : o.op = .call { callee := .builtin .copy, args := #[d, s], argTypes := #[dT, sT] }) (elem : TypeId) (sz : Nat) (hu : P.underlying dT = some (.slice elem)) (hsz : (P.info? elem).map (·.size) = some sz)
    (g off dLen dCap : Nat) (ad : Addr) (sLen sCap : Nat) (hd : a.eval d = .slice (some ⟨g, off, none⟩) dLen dCap) (hs : a.eval s = .slice (some ad) sLen sCap)
    (cur : List Value) (t : TypeId) (hg : w.heap[g]? = some (.cells cur.toArray t (0, 0))) (cs : List Value) (k : Nat) (hk : Nat.min sLen dLen = k) (hn : cs.length = k * sz)
    (hsrc : ∀ j v, cs[j]? = some v → w.cell? (ad.add j) = some v) (hfit : off + cs.length ≤ cur.length) (h1 : ∀ v ∈ cs, v.oneCell' = true)
    (h : ∀ w', Hid (w'.heap[g]? = some (.cells (splice cur off cs).toArray t (0, 0))) → Touch (fun b => b = g) w w' → wpList P ops Q rest (a.put o.dst (goInt k)) w') : wpList P ops Q (o :: rest) a w :=
  wpList_plain hgd fun _ hK => wp_copyK d s dT sT ho elem sz hu hsz g off dLen dCap ad sLen sCap hd hs cur t hg cs k hk hn hsrc hfit h1 fun w' h2 h3 => hK _ _ (h w' h2 h3)
end
theorem fib_four : (Try.prog.info? 64).map (·.size) = some 4 := by kernel_rfl
theorem sees_fib {w : World} {g : Nat} {f : Fib} (h : Blk w g 64 #[.int .i64 f.a, .int .i64 f.b, .int .i64 f.len, .int .i64 f.risk]) : Sees elFib w w.heap.size (some ⟨g, 0, none⟩) 1 [f] := by
  refine ⟨rfl, .inr ⟨g, 0, rfl, h.lt, fun q x hx j u hu => ?_⟩⟩
  rcases q with _ | q
  · simp at hx; subst hx
    have e := h.cell (0 + 0 * elFib.sz + j)
    rw [e]
    have hu' : ([.int .i64 f.a, .int .i64 f.b, .int .i64 f.len, .int .i64 f.risk] : List Value)[j]? = some u := hu
    rw [← hu']
    simp
  · simp at hx
/-- The cells of a row of fibers, part of it. -/
def partC (cur : Array Value) (k n : Nat) : List Value := (cur.toList.drop (k * 4)).take ((n - k) * 4)
section
variable {cur : Array Value} {fs : List Fib} {n k c : Nat}
theorem partC_len (hs : cur.size = c * 4) (hnc : n ≤ c) (hk : k ≤ n) : (partC cur k n).length = (n - k) * 4 := by
  unfold partC
  rw [List.length_take, List.length_drop, Array.length_toList, hs]
  omega
theorem partC_get {j : Nat} {v : Value} (h : (partC cur k n)[j]? = some v) : j < (n - k) * 4 ∧ cur[k * 4 + j]? = some v := by
  unfold partC at h
  rw [List.getElem?_take] at h
  split at h
  · rename_i hj
    rw [List.getElem?_drop, Array.getElem?_toList] at h
    exact ⟨hj, h⟩
  · cases h
theorem partC_at {j : Nat} (hj : j < (n - k) * 4) : (partC cur k n)[j]? = cur[k * 4 + j]? := by
  unfold partC
  rw [List.getElem?_take, if_pos hj, List.getElem?_drop, Array.getElem?_toList]
theorem row_one (hf : Filled elFib cur fs n) (hl : fs.length = n) {q : Nat} {v : Value} (hq : q < n * 4) (h : cur[q]? = some v) : v.oneCell' = true := by
  have h1 : q / 4 < n := by omega
  obtain ⟨x, hx⟩ : ∃ x, fs[q / 4]? = some x := ⟨fs[q / 4]'(by omega), by simp [hl, h1]⟩
  have h3 : q % 4 < (elFib.cells x).length := by rw [elFib.len]; show q % 4 < 4; omega
  have h4 := hf (q / 4) x h1 hx (q % 4) _ (List.getElem?_eq_getElem h3)
  have e : q / 4 * elFib.sz + q % 4 = q := by show q / 4 * 4 + q % 4 = q; omega
  rw [e, h] at h4
  injection h4 with h4
  rw [h4]
  exact elFib.one x _ (List.getElem_mem h3)
theorem partC_one (hf : Filled elFib cur fs n) (hl : fs.length = n) : ∀ v ∈ partC cur k n, v.oneCell' = true := by
  intro v hv
  obtain ⟨j, hj⟩ := List.getElem?_of_mem hv
  obtain ⟨h1, h2⟩ := partC_get hj
  exact row_one hf hl (by omega) h2
/-- A row with one fiber more. -/
theorem filled_ins {R : Array Value} {f : Fib} (hl : fs.length = n) (hk : k ≤ n) (hf : Filled elFib cur fs n) (h1 : ∀ q, q < k * 4 → R[q]? = cur[q]?) (h2 : ∀ j, j < 4 → R[k * 4 + j]? = (elFib.cells f)[j]?) (h3 : ∀ q, k * 4 ≤ q → q < n * 4 → R[q + 4]? = cur[q]?) :
    Filled elFib R (fs.take k ++ f :: fs.drop k) (n + 1) := by
  intro j x hj hx i u hu
  have hi : i < 4 := by have := (List.getElem?_eq_some_iff.1 hu).1; rw [elFib.len] at this; exact this
  show R[j * 4 + i]? = some u
  rw [List.getElem?_append, List.length_take, Nat.min_eq_left (by omega)] at hx
  by_cases hjk : j < k
  · rw [if_pos hjk, List.getElem?_take, if_pos hjk] at hx
    rw [h1 _ (by omega)]
    exact hf j x (by omega) hx i u hu
  · rw [if_neg hjk] at hx
    obtain ⟨d, rfl⟩ : ∃ d, j = k + d := ⟨j - k, by omega⟩
    rw [show k + d - k = d by omega] at hx
    rcases d with _ | d
    · simp at hx; subst hx
      rw [Nat.add_zero, h2 i hi]; exact hu
    · simp only [List.getElem?_cons_succ, List.getElem?_drop] at hx
      rw [show (k + (d + 1)) * 4 + i = ((k + d) * 4 + i) + 4 by omega, h3 _ (by omega) (by omega)]
      exact hf (k + d) x (by omega) hx i u hu
end
theorem ins_room {cur : Array Value} {fs : List Fib} {f : Fib} {n k c : Nat} {M : List Value} (hs : cur.size = c * 4) (hnc : n ≤ c) (hk : k ≤ n) (hM : ∀ q, q < k * 4 → M[q]? = cur[q]?) (hl : (n + 1) * 4 ≤ M.length) (hfl : fs.length = n) (hf : Filled elFib cur fs n) :
    Filled elFib (splice (splice M ((k + 1) * 4) (partC cur k n)) (k * 4) (elFib.cells f)).toArray (fs.take k ++ f :: fs.drop k) (n + 1) := by
  have hp := partC_len hs hnc hk
  have h4 : (elFib.cells f).length = 4 := rfl
  have hl1 : (splice M ((k + 1) * 4) (partC cur k n)).length = M.length := length_splice _ _ _ (by omega)
  have hg := splice_get (splice M ((k + 1) * 4) (partC cur k n)) (k * 4) (elFib.cells f) (by omega)
  have hg1 := splice_get M ((k + 1) * 4) (partC cur k n) (by omega)
  refine filled_ins hfl hk hf (fun q hq => ?_) (fun j hj => ?_) (fun q h1 h2 => ?_)
  · rw [List.getElem?_toArray, hg, if_pos hq, hg1, if_pos (by omega), hM q hq]
  · rw [List.getElem?_toArray, hg, if_neg (by omega), if_pos (by omega), show k * 4 + j - k * 4 = j by omega]
  · rw [List.getElem?_toArray, hg, if_neg (by omega), if_neg (by omega), hg1, if_neg (by omega), if_pos (by omega), partC_at (by omega), show k * 4 + (q + 4 - (k + 1) * 4) = q by omega]
theorem ins_grow {cur : Array Value} {fs : List Fib} {f : Fib} {n k c : Nat} {M : List Value} (hs : cur.size = c * 4) (hnc : n ≤ c) (hk : k ≤ n) (hM : ∀ q, q < k * 4 → M[q]? = cur[q]?) (hl : (n + 1) * 4 ≤ M.length) (hfl : fs.length = n) (hf : Filled elFib cur fs n) :
    Filled elFib (splice (splice M (k * 4) (elFib.cells f)) ((k + 1) * 4) (partC cur k n)).toArray (fs.take k ++ f :: fs.drop k) (n + 1) := by
  have hp := partC_len hs hnc hk
  have h4 : (elFib.cells f).length = 4 := rfl
  have hl1 : (splice M (k * 4) (elFib.cells f)).length = M.length := length_splice _ _ _ (by omega)
  have hg := splice_get (splice M (k * 4) (elFib.cells f)) ((k + 1) * 4) (partC cur k n) (by omega)
  have hg1 := splice_get M (k * 4) (elFib.cells f) (by omega)
  refine filled_ins hfl hk hf (fun q hq => ?_) (fun j hj => ?_) (fun q h1 h2 => ?_)
  · rw [List.getElem?_toArray, hg, if_pos (by omega), hg1, if_pos hq, hM q hq]
  · rw [List.getElem?_toArray, hg, if_pos (by omega), hg1, if_neg (by omega), if_pos (by omega), show k * 4 + j - k * 4 = j by omega]
  · rw [List.getElem?_toArray, hg, if_neg (by omega), if_pos (by omega), partC_at (by omega), show k * 4 + (q + 4 - (k + 1) * 4) = q by omega]
set_option maxHeartbeats 4000000 in
set_option maxRecDepth 100000 in
theorem insert1_led {w0 w : World} {L : List Thing} (h : Led w0 w L) (i : Nat) {base n c k g : Nat} {A : Option Addr} {fs : List Fib} {f : Fib} (hi : L[i]? = some (tOwns elFib base 64 (.slice A n c) fs)) (j : Nat) (hj : L[j]? = some (tBlk g 64 #[.int .i64 f.a, .int .i64 f.b, .int .i64 f.len, .int .i64 f.risk])) (hij : i ≠ j) (hk : k ≤ n) (hn : n ≤ 1048576) (hbase : base ≤ w.heap.size) :
    Calls Try.prog 98 #[.slice A n c, .int .i64 k, .slice (some ⟨g, 0, none⟩) 1 1] w fun e w' => ∃ A' c', e = .returned (.slice A' (n + 1) c') ∧ Led w0 w' (L.set i (tOwns elFib base 64 (.slice A' (n + 1) c') (fs.take k ++ f :: fs.drop k))) := by
  obtain ⟨j0, hy, hy0, hy1, hy2⟩ := info_parts fib_info
  have hB : Blk w g 64 #[.int .i64 f.a, .int .i64 f.b, .int .i64 f.len, .int .i64 f.risk] := h.get j hj
  have hv := sees_fib hB
  have ho := h.own i hi
  have hlen : fs.length = n := by
    obtain ⟨A2, c2, hv2, _⟩ := ho.form
    injection hv2 with _ e2 _
    omega
  have hnc : n ≤ c ∧ c ≤ maxLen := by
    obtain ⟨A2, c2, hv2, h2, h3, _⟩ := ho.form
    injection hv2 with _ e2 e3
    omega
  have hc63 : (c : Int) ≤ 9223372036854775807 := by have := hnc.2; unfold maxLen at this; omega
  rcases Nat.lt_or_ge k n with hkn | hkn
  · rcases Owns.cases ho with ⟨h0, h00⟩ | ⟨g1, c1, cur, hv1, hbase1, hR, hnc1, hcm, hsz, hf⟩
    · rw [h00] at hlen
      simp at hlen
      omega
    · injection hv1 with e1 e2 e3
      subst e1 e3
      rw [hlen] at hf
      clear e2
      have hsz4 : cur.size = c * 4 := hsz
      have hgg : g ≠ g1 := fun e => h.apart j i _ _ (fun e2 => hij e2.symm) hj hi g rfl (by rw [e]; rfl)
      have hcs := hid (partC_len (k := k) hsz4 hnc.1 hk)
      have hone := hid (partC_one (k := k) hf hlen)
      have hget := hid (fun j v (h : (partC cur k n)[j]? = some v) => partC_get h)
      by_cases hroom : n + 1 ≤ c
      · have hov : ∀ o lb cb, (callFunc 132 #[.slice (some ⟨g, 0, none⟩) 1 1, .slice (some ⟨g1, o, none⟩) lb cb]).run Try.prog w = .ok (.value (.bool false)) w := fun o lb cb => by
          rw [run_callFunc_extern Try.func132 (by kernel_rfl) (by kernel_rfl) (by kernel_rfl) (e := Extern.SlicesOverlaps.overlaps #[33, 33] #[4]) (by kernel_rfl),
            Lib.run_overlaps_apart w 33 4 64 Try.underlying33 4 Try.sizeOf64 ⟨g, 0, none⟩ ⟨g1, o, none⟩ 1 1 lb cb hgg 64 64 4 cur.size (by unfold Blk at hB; simp [World.shape?, hB]) (by unfold Blk at hR; simp [World.shape?, hR]) (by rw [hsz4]; omega) (hB.frozen 0) (hB.frozen 4)]
          rfl
        have hw1 : IntKind.i64.wrap ((k : Int) + 1) = (k : Int) + 1 := by rw [IntKind.wrap_i64]; omega
        have hw2 : IntKind.i64.wrap ((n : Int) + 1) = (n : Int) + 1 := by rw [IntKind.wrap_i64]; omega
        have hb1 : (0 : Int) ≤ (k : Int) + 1 := by omega
        have htn : ((k : Int) + 1).toNat = k + 1 := by omega
        have htn2 : ((n : Int) + 1).toNat = n + 1 := by omega
        have hkn1 : ¬ ((k : Int) = (n : Int)) := by omega
        have hkn2 : (k : Int) ≤ (n : Int) := by omega
        have hkc : (k : Int) ≤ (c : Int) := by omega
        have hkc1 : ¬ (c = k) := by omega
        have hkc2 : ¬ (c = k + 1) := by omega
        have hnc2 : (n : Int) + 1 ≤ (c : Int) := by omega
        have hnc3 : ¬ ((c : Int) < (n : Int) + 1) := by omega
        have hb3 : (k : Int) ≤ (n : Int) + 1 := by omega
        have HB := hid hB
        have HR := hid hR
        have HF := hid hf
        have HV := hid hv
        have HO := hid ho
        have HLen := hid hlen
        have HS := hid h
        have HSZ := hid hsz4
        clear hB hR hf hv ho hlen h hsz4 hsz
        go_enter Try.func98, Try.ntmps98
        go_wp2_with (simp only [hov])
        obtain ⟨C1, hC1⟩ : ∃ C1, C1 = partC cur k n := ⟨_, rfl⟩
        have HC1 := hid hC1
        rw [← hC1] at hcs hone hget
        clear hC1
        have hg0 : Hid (w.drew.heap[g1]? = some (.cells cur.toList.toArray 64 (0, 0))) := by rw [Array.toArray_toList]; exact HR.out
        have hmin : Hid (Nat.min (n + 1 - k) (n - k) = n - k) := by unfold Hid; simp only [Nat.min_def]; split <;> omega
        have hmin2 : Hid (Nat.min 1 (n + 1 - k) = 1) := by unfold Hid; simp only [Nat.min_def]; split <;> omega
        have hsrc : Hid (∀ j v, C1[j]? = some v → w.drew.cell? ((⟨g1, k * 4, none⟩ : Addr).add j) = some v) := fun j v hj => by
          rw [Addr.add_lit]
          exact (HR.out.cell (k * 4 + j)).trans (hget.out j v hj).2
        have hfit : Hid ((k + 1) * 4 + C1.length ≤ cur.toList.length) := by unfold Hid; rw [hcs.out, Array.length_toList, HSZ.out]; omega
        go_region_law (refine stepI rfl ?_; simp only [Act.put, List.getElem_toArray, List.getElem_cons_zero, List.getElem_cons_succ, List.setIfInBounds_toArray, List.set_cons_zero, List.set_cons_succ]; refine wp_copyK (.tmp 73) (.tmp 76) 33 33 rfl 64 4 Try.underlying33 fib_four g1 ((k + 1) * 4) _ _ ⟨g1, k * 4, none⟩ _ _ rfl rfl cur.toList 64 hg0.out C1 (n - k) hmin.out hcs.out hsrc.out hfit.out hone.out ?_; intro w4 hg4 ht4; simp only [Act.put, List.setIfInBounds_toArray, List.set_cons_zero, List.set_cons_succ])
        all_goals
          have HT4 := hid ht4
          clear ht4
          obtain ⟨M1, hM1⟩ : ∃ M1, M1 = splice cur.toList ((k + 1) * 4) C1 := ⟨_, rfl⟩
          have HM1 := hid hM1
          rw [← hM1] at hg4
          have hM1l : Hid (M1.length = c * 4) := by unfold Hid; rw [hM1, length_splice _ _ _ hfit.out, Array.length_toList]; exact HSZ.out
          clear hM1
          obtain ⟨C2, hC2⟩ : ∃ C2, C2 = elFib.cells f := ⟨_, rfl⟩
          have HC2 := hid hC2
          have hC2l : Hid (C2.length = 1 * 4) := by unfold Hid; rw [hC2]; rfl
          have hsrc2 : Hid (∀ j v, C2[j]? = some v → w4.cell? ((⟨g, 0, none⟩ : Addr).add j) = some v) := fun j v hj => by
            rw [Addr.add_lit, (HB.out.touch ((Touch.of_below (Cls.drew w)).trans HT4.out |>.mono (S' := fun b => b = g1) (fun _ h => h)) hgg).cell, ← hj, hC2]
            simp [elFib]
          have hone2 : Hid (∀ v ∈ C2, v.oneCell' = true) := by unfold Hid; rw [hC2]; exact elFib.one f
          have hfit2 : Hid (k * 4 + C2.length ≤ M1.length) := by unfold Hid; rw [hC2l.out, hM1l.out]; omega
          clear hC2
          go_wp2_with (first
            | (refine wpList_copyK rfl (.tmp 80) (.tmp 81) 33 33 rfl 64 4 Try.underlying33 fib_four g1 (k * 4) _ _ ⟨g, 0, none⟩ _ _ rfl rfl M1 64 hg4.out C2 1 hmin2.out hC2l.out hsrc2.out hfit2.out hone2.out ?_)
            | go_in)
          intro w5 hg5 ht5
          have HT5 := hid ht5
          clear ht5
          go_wp2
          go_ret
          refine ⟨some ⟨g1, 0, none⟩, c, rfl, HS.out.regrow i hi (((Touch.of_below (Cls.drew w)).trans (HT4.out.trans HT5.out)).mono (fun b hb => by subst hb; rfl)) (fun b hb => .inl hb) ?_⟩
          rw [HM1.out, HC1.out, HC2.out] at hg5
          refine Owns.of_blk (n := n + 1) hg5.out hbase1 (by simp [HLen.out]; omega) hroom ?_ hcm (ins_room HSZ.out hnc.1 hk (fun q hq => by rw [Array.getElem?_toList]) (by rw [Array.length_toList, HSZ.out]; omega) HLen.out HF.out)
          rw [List.size_toArray, length_splice _ _ _ (by rw [← HC1.out, ← HM1.out, ← HC2.out]; exact hfit2.out), ← HC1.out, ← HM1.out, hM1l.out]
          rfl
      · have hroom2 : c < n + 1 := by omega
        obtain ⟨z, hz⟩ : ∃ z, z = Value.agg #[.int .i64 0, .int .i64 0, .int .i64 0, .int .i64 0] := ⟨_, rfl⟩
        rw [← hz] at hy0
        have hzc : z.cells.size = 4 := by rw [hz]; rfl
        clear hz
        have hOLDl : (cur.toList.take (k * 4)).length = k * 4 := by rw [List.length_take, Array.length_toList, hsz4]; omega
        have hOLD : ∀ q, q < k * 4 → (cur.toList.take (k * 4))[q]? = cur[q]? := fun q hq => by rw [List.getElem?_take, if_pos hq, Array.getElem?_toList]
        obtain ⟨OLD, hO⟩ : ∃ O, O = cur.toList.take (k * 4) := ⟨_, rfl⟩
        rw [← hO] at hOLDl hOLD
        clear hO
        have hold : (Builtin.firstCells j0.size k (.slice (some ⟨g1, 0, none⟩) k c)).run Try.prog w.drew = .ok OLD.toArray w.drew := by
          rw [hy1]
          exact run_firstCells_some w.drew 4 k ⟨g1, 0, none⟩ k c OLD hOLDl (fun q v hq => by
            rw [Addr.add_lit, Nat.zero_add]
            have hq2 := (List.getElem?_eq_some_iff.1 hq).1
            rw [hOLD q (by omega)] at hq
            exact (hR.cell q).trans hq)
        have hik : k + (n + 1 - k) = n + 1 := by omega
        have hkk : (n : Int) + 1 - (k : Int) = ((n + 1 - k : Nat) : Int) := by omega
        obtain ⟨G, hG⟩ : ∃ G, G = grownCap w (n + 1) c 64 := ⟨_, rfl⟩
        have hrz : ∀ ty, (Builtin.append_ #[33, 3] ty #[.slice (some ⟨g1, 0, none⟩) k c, .int .i64 ((n : Int) + 1 - (k : Int))]).run Try.prog w =
            .ok (.slice (some ⟨w.heap.size, 0, none⟩) (n + 1) G) (w.drew.alloc (.cells (OLD.toArray ++ Builtin.zeroCells z.cells (n + 1 - k) ++ Builtin.zeroCells z.cells (G - (n + 1))) 64)) := fun ty => by
          have h1 := Lib.run_append_grow_zeros w 33 3 ty 64 j0 z .i64 .i64 Try.underlying33 Try.underlying3 hy hy0 (some ⟨g1, 0, none⟩) k c OLD hold (n + 1 - k) (by omega) (by omega) (by omega) (by omega) (by rw [hy2]; omega) (by rw [hy2, hik]; exact growslice_fits hroom2 (by omega))
          rw [hik, ← hG] at h1
          rw [hkk]
          exact h1
        have hGn : n + 1 ≤ G := by rw [hG]; exact grownCap_ge w _ _ _
        have hGm : G ≤ maxLen := by rw [hG]; exact grownCap_le_maxLen w (n + 1) c 64 (by unfold maxLen; omega)
        have hG63 : (G : Int) ≤ 9223372036854775807 := by unfold maxLen at hGm; omega
        obtain ⟨ROW, hROW⟩ : ∃ R : Array Value, R = OLD.toArray ++ Builtin.zeroCells z.cells (n + 1 - k) ++ Builtin.zeroCells z.cells (G - (n + 1)) := ⟨_, rfl⟩
        rw [← hROW] at hrz
        have hROWl : Hid (ROW.size = G * 4) := by unfold Hid; rw [hROW]; simp [Builtin.zeroCells, hzc, hOLDl]; omega
        have hROWo : Hid (∀ q, q < k * 4 → ROW.toList[q]? = cur[q]?) := fun q hq => by
          rw [Array.getElem?_toList, hROW, Array.getElem?_append, if_pos (by simp [hOLDl]; omega), Array.getElem?_append, if_pos (by simp [hOLDl]; omega), List.getElem?_toArray]
          exact hOLD q hq
        clear hROW hG hold hOLD hOLDl hik hkk
        have hw1 : IntKind.i64.wrap ((k : Int) + 1) = (k : Int) + 1 := by rw [IntKind.wrap_i64]; omega
        have hw2 : IntKind.i64.wrap ((n : Int) + 1) = (n : Int) + 1 := by rw [IntKind.wrap_i64]; omega
        have hw3 : IntKind.i64.wrap ((n : Int) + 1 - (k : Int)) = (n : Int) + 1 - (k : Int) := by rw [IntKind.wrap_i64]; omega
        have hb1 : (0 : Int) ≤ (k : Int) + 1 := by omega
        have htn : ((k : Int) + 1).toNat = k + 1 := by omega
        have hkn1 : ¬ ((k : Int) = (n : Int)) := by omega
        have hkn2 : (k : Int) ≤ (n : Int) := by omega
        have hkc : (k : Int) ≤ (c : Int) := by omega
        have hkc1 : ¬ (c = k) := by omega
        have hnc3 : (c : Int) < (n : Int) + 1 := by omega
        have hb3 : (k : Int) ≤ (n : Int) + 1 := by omega
        have hb4 : (k : Int) + 1 ≤ (n : Int) + 1 := by omega
        have hGi : ¬ (G = k) := by omega
        have hGim : ¬ (G = k + 1) := by omega
        have HB := hid hB
        have HR := hid hR
        have HF := hid hf
        have HLen := hid hlen
        have HS := hid h
        have HSZ := hid hsz4
        have hg1w : Hid (g1 < w.heap.size) := hR.lt
        have hgw : Hid (g < w.heap.size) := hB.lt
        clear hB hR hf hv ho hlen h hsz4 hsz
        obtain ⟨C1, hC1⟩ : ∃ C1, C1 = partC cur k n := ⟨_, rfl⟩
        have HC1 := hid hC1
        rw [← hC1] at hcs hone hget
        clear hC1
        obtain ⟨C2, hC2⟩ : ∃ C2, C2 = elFib.cells f := ⟨_, rfl⟩
        have HC2 := hid hC2
        have hC2l : Hid (C2.length = 1 * 4) := by unfold Hid; rw [hC2]; rfl
        have hone2 : Hid (∀ v ∈ C2, v.oneCell' = true) := by unfold Hid; rw [hC2]; exact elFib.one f
        have hBW : Hid (Below w.heap.size w (w.alloc (.cells ROW 64)).drew) := (bl_alloc (Below.refl _ _) _).drew
        have hg0 : Hid ((w.alloc (.cells ROW 64)).drew.heap[w.heap.size]? = some (.cells ROW.toList.toArray 64 (0, 0))) := by rw [Array.toArray_toList]; exact Blk.new w _ _
        have hsrc2 : Hid (∀ j v, C2[j]? = some v → (w.alloc (.cells ROW 64)).drew.cell? ((⟨g, 0, none⟩ : Addr).add j) = some v) := fun j v hj => by
          rw [Addr.add_lit, (HB.out.below hBW.out hgw.out).cell, ← hj, hC2]
          simp [elFib]
        have hfit2 : Hid (k * 4 + C2.length ≤ ROW.toList.length) := by unfold Hid; rw [hC2l.out, Array.length_toList, hROWl.out]; omega
        have hmin2 : Hid (Nat.min 1 (n + 1 - k) = 1) := by unfold Hid; simp only [Nat.min_def]; split <;> omega
        have hmin : Hid (Nat.min (n - k) (n - k) = n - k) := Nat.min_self _
        clear hC2
        go_enter Try.func98, Try.ntmps98
        go_wp2_with (first
          | (at_builtin; refine Lib.wpList_append_run _ rfl _ _ _ _ rfl _ _ rfl rfl _ _ (hrz _) ?_)
          | (refine wpList_copyK rfl (.tmp 43) (.tmp 44) 33 33 rfl 64 4 Try.underlying33 fib_four w.heap.size (k * 4) _ _ ⟨g, 0, none⟩ _ _ rfl rfl ROW.toList 64 hg0.out C2 1 hmin2.out hC2l.out hsrc2.out hfit2.out hone2.out ?_)
          | go_in)
        intro w4 hg4 ht4
        obtain ⟨M1, hM1⟩ : ∃ M1, M1 = splice ROW.toList (k * 4) C2 := ⟨_, rfl⟩
        have HM1 := hid hM1
        rw [← hM1] at hg4
        have hM1l : Hid (M1.length = G * 4) := by unfold Hid; rw [hM1, length_splice _ _ _ hfit2.out, Array.length_toList]; exact hROWl.out
        clear hM1
        have hBW4 : Hid (Below w.heap.size w w4) := hBW.out.trans (ht4.below (fun b hb => by subst hb; exact Nat.le_refl _) hBW.out.size)
        clear ht4
        have hg4' : Hid (w4.drew.heap[w.heap.size]? = some (.cells M1.toArray 64 (0, 0))) := hg4
        have hsrc : Hid (∀ j v, C1[j]? = some v → w4.drew.cell? ((⟨g1, k * 4, none⟩ : Addr).add j) = some v) := fun j v hj => by
          rw [Addr.add_lit]
          exact ((HR.out.below hBW4.out hg1w.out).cell (k * 4 + j)).trans (hget.out j v hj).2
        have hfit : Hid ((k + 1) * 4 + C1.length ≤ M1.length) := by unfold Hid; rw [hcs.out, hM1l.out]; omega
        go_wp2_with fail
        go_region_law (refine stepI rfl ?_; simp only [Act.put, List.getElem_toArray, List.getElem_cons_zero, List.getElem_cons_succ, List.setIfInBounds_toArray, List.set_cons_zero, List.set_cons_succ]; refine wp_copyK (.tmp 50) (.tmp 53) 33 33 rfl 64 4 Try.underlying33 fib_four w.heap.size ((k + 1) * 4) _ _ ⟨g1, k * 4, none⟩ _ _ rfl rfl M1 64 hg4'.out C1 (n - k) hmin.out hcs.out hsrc.out hfit.out hone.out ?_; intro w5 hg5 ht5; simp only [Act.put, List.setIfInBounds_toArray, List.set_cons_zero, List.set_cons_succ])
        all_goals
          have hBW5 : Hid (Below w.heap.size w w5) := (hBW4.out.drew).trans (ht5.below (fun b hb => by subst hb; exact Nat.le_refl _) hBW4.out.size)
          clear ht5
          go_wp2
          go_ret
          refine ⟨some ⟨w.heap.size, 0, none⟩, G, rfl, HS.out.regrow i hi (Touch.of_below hBW5.out) (fun b hb => .inr (by have e : some w.heap.size = some b := hb; injection e with e; omega)) ?_⟩
          rw [HM1.out, HC1.out, HC2.out] at hg5
          refine Owns.of_blk (n := n + 1) hg5.out hbase (by simp [HLen.out]; omega) hGn ?_ hGm (ins_grow HSZ.out hnc.1 hk hROWo.out (by rw [Array.length_toList, hROWl.out]; omega) HLen.out HF.out)
          rw [List.size_toArray, length_splice _ _ _ (by rw [← HC1.out, ← HC2.out, ← HM1.out]; exact hfit.out), ← HC2.out, ← HM1.out, hM1l.out]
          rfl
  · obtain rfl : k = n := by omega
    have HV := hid hv
    have HLen := hid hlen
    have HS := hid h
    have hkc : (k : Int) ≤ (c : Int) := by omega
    have e : fs.take k ++ f :: fs.drop k = fs ++ [f] := by rw [← hlen, List.take_length, List.drop_length]
    rw [e]
    clear e hv h hB ho hlen
    go_enter Try.func98, Try.ntmps98
    go_wp2_with (first
      | (at_builtin; refine wpList_append_led rfl _ _ 33 rfl HS.out i hi Try.underlying33 hy hy0 hy1 (by rw [hy2]; decide) rfl rfl rfl HV.out (by rw [HLen.out]; omega) hbase ?_)
      | go_in)
    all_goals
      intro A' c' w1 hS1
      go_wp2
      go_ret
      exact ⟨A', c', by rw [HLen.out]; rfl, by rw [HLen.out] at hS1; exact hS1⟩
end Go.Proofs.Ytjklphlgmlomjaa
/- A fiber more in a network, in plain Lean. Conditions: none. -/
namespace Go.Proofs.Ytjklphlgmlomjaa
section
variable {xs : List ByteArray} {fs : List Fib} {f : Fib}
/-- The fiber comes behind the first k. -/
def aheadF (fs : List Fib) (f : Fib) (k : Nat) : Bool := decide (cmpFib (fs.getD k default) f ≤ 0)
/-- Where it goes. -/
def atTo (fs : List Fib) (f : Fib) : Nat → Nat → Nat
  | 0, k => k
  | r + 1, k => if aheadF fs f k then atTo fs f r (k + 1) else k
def atF (fs : List Fib) (f : Fib) : Nat := atTo fs f fs.length 0
theorem atTo_is {k : Nat} (hk : k ≤ fs.length) (h : allTo (aheadF fs f) k) (hi : k = fs.length ∨ aheadF fs f k = false) : ∀ r j, j + r = fs.length → j ≤ k → atTo fs f r j = k := by
  intro r
  induction r with
  | zero =>
    intro j hj hjk
    show j = k
    omega
  | succ r ih =>
    intro j hj hjk
    unfold atTo
    rcases Nat.lt_or_ge j k with h1 | h1
    · rw [if_pos (h j h1)]; exact ih (j + 1) (by omega) (by omega)
    · rcases hi with h2 | h2
      · omega
      · rw [show j = k by omega, h2]; rfl
theorem atF_is {k : Nat} (hk : k ≤ fs.length) (h : allTo (aheadF fs f) k) (hi : k = fs.length ∨ aheadF fs f k = false) : atF fs f = k := atTo_is hk h hi _ _ (by omega) (by omega)
theorem atTo_spec : ∀ r j, j + r = fs.length → allTo (aheadF fs f) j → atTo fs f r j ≤ fs.length ∧ allTo (aheadF fs f) (atTo fs f r j) ∧ (atTo fs f r j = fs.length ∨ aheadF fs f (atTo fs f r j) = false) := by
  intro r
  induction r with
  | zero => intro j hj h; exact ⟨by show j ≤ _; omega, h, .inl (by show j = _; omega)⟩
  | succ r ih =>
    intro j hj h
    unfold atTo
    cases g : aheadF fs f j
    · exact ⟨by show j ≤ _; omega, h, .inr g⟩
    · exact ih (j + 1) (by omega) (allTo_succ h g)
theorem atF_le : atF fs f ≤ fs.length := (atTo_spec fs.length 0 (by omega) (allTo_zero _)).1
theorem atF_ahead : allTo (aheadF fs f) (atF fs f) := (atTo_spec fs.length 0 (by omega) (allTo_zero _)).2.1
theorem atF_stop : atF fs f = fs.length ∨ aheadF fs f (atF fs f) = false := (atTo_spec fs.length 0 (by omega) (allTo_zero _)).2.2
def insF (fs : List Fib) (f : Fib) : List Fib := fs.take (atF fs f) ++ f :: fs.drop (atF fs f)
theorem insF_len : (insF fs f).length = fs.length + 1 := by
  have := atF_le (fs := fs) (f := f)
  unfold insF; simp; omega
theorem insF_lo {j : Nat} (h : j < atF fs f) : (insF fs f).getD j default = fs.getD j default := by
  have := atF_le (fs := fs) (f := f)
  unfold insF
  rw [List.getD_eq_getElem?_getD, List.getD_eq_getElem?_getD, List.getElem?_append_left (by simp; omega), List.getElem?_take, if_pos h]
theorem insF_at : (insF fs f).getD (atF fs f) default = f := by
  have := atF_le (fs := fs) (f := f)
  unfold insF
  rw [List.getD_eq_getElem?_getD, List.getElem?_append_right (by simp; omega)]
  simp [Nat.min_eq_left this]
theorem insF_hi {j : Nat} (h : atF fs f ≤ j) : (insF fs f).getD (j + 1) default = fs.getD j default := by
  have := atF_le (fs := fs) (f := f)
  unfold insF
  rw [List.getD_eq_getElem?_getD, List.getD_eq_getElem?_getD, List.getElem?_append_right (by simp; omega)]
  simp [Nat.min_eq_left this]
  rw [show j + 1 - atF fs f = (j - atF fs f) + 1 by omega, List.getElem?_cons_succ, List.getElem?_drop, show atF fs f + (j - atF fs f) = j by omega]
theorem cmpB_neg_ (a b : Int) : cmpB a b = -cmpB b a := by unfold cmpB; split <;> (try split) <;> (try split) <;> omega
theorem cmpFib_neg (f g : Fib) : cmpFib f g = -cmpFib g f := by
  unfold cmpFib orI orI orI orI orI
  rw [cmpB_neg_ f.a, cmpB_neg_ f.b, cmpB_neg_ f.len, cmpB_neg_ f.risk]
  split <;> split <;> (try omega) <;> (try (split <;> split <;> (try omega))) <;> (try (split <;> split <;> (try omega))) <;> (try (split <;> split <;> (try omega)))
theorem insF_good (h : allTo (fibAt xs.length fs) fs.length) : allB (fibAt xs.length (insF fs f)) (fs.length + 1) = fibB xs.length f := by
  have hle := atF_le (fs := fs) (f := f)
  rw [Bool.eq_iff_iff, allB_iff]
  constructor
  · intro hh
    have h1 := hh (atF fs f) (by omega)
    unfold fibAt at h1
    rw [Bool.and_eq_true, insF_at] at h1
    exact h1.1
  · intro hf j hj
    have hold : ∀ i, i < fs.length → fibB xs.length (fs.getD i default) = true ∧ (i = 0 ∨ cmpFib (fs.getD (i - 1) default) (fs.getD i default) ≤ 0) := fun i hi => by
      have h1 := h i hi
      unfold fibAt at h1
      rw [Bool.and_eq_true, Bool.or_eq_true, beq_iff_eq, decide_eq_true_eq] at h1
      exact h1
    unfold fibAt
    rw [Bool.and_eq_true, Bool.or_eq_true, beq_iff_eq, decide_eq_true_eq]
    rcases Nat.lt_trichotomy j (atF fs f) with h1 | h1 | h1
    · rw [insF_lo h1]
      refine ⟨(hold j (by omega)).1, ?_⟩
      rcases (hold j (by omega)).2 with h2 | h2
      · exact .inl h2
      · right
        rw [insF_lo (by omega)]; exact h2
    · subst h1
      rw [insF_at]
      refine ⟨hf, ?_⟩
      rcases Nat.eq_zero_or_pos (atF fs f) with h2 | h2
      · exact .inl h2
      · right
        rw [insF_lo (by omega)]
        have := atF_ahead (fs := fs) (f := f) (atF fs f - 1) (by omega)
        unfold aheadF at this
        simpa using this
    · obtain ⟨i, rfl⟩ : ∃ i, j = i + 1 := ⟨j - 1, by omega⟩
      rw [insF_hi (by omega)]
      refine ⟨(hold i (by omega)).1, .inr ?_⟩
      rw [Nat.add_sub_cancel]
      rcases Nat.lt_or_ge (atF fs f) i with h2 | h2
      · obtain ⟨k, rfl⟩ : ∃ k, i = k + 1 := ⟨i - 1, by omega⟩
        rw [insF_hi (by omega)]
        rcases (hold (k + 1) (by omega)).2 with h3 | h3
        · omega
        · simpa using h3
      · have e : i = atF fs f := by omega
        subst e
        rw [insF_at, cmpFib_neg]
        rcases atF_stop (fs := fs) (f := f) with h3 | h3
        · omega
        · unfold aheadF at h3
          rw [decide_eq_false_iff_not] at h3
          omega
/-- May the fiber be added? -/
def addB (xs : List ByteArray) (fs : List Fib) (f : Fib) : Bool := (goodB xs fs && fibB xs.length f) && decide (fs.length < 14)
theorem addB_eq : addB xs fs f = (goodB xs fs && goodB xs (insF fs f)) := by
  unfold addB
  cases g : goodB xs fs
  · rfl
  · have g' := g
    unfold goodB at g'
    rw [Bool.and_eq_true, Bool.and_eq_true, Bool.and_eq_true] at g'
    have h1 := insF_good (f := f) (allB_iff.1 g'.2)
    have e : goodB xs (insF fs f) = (decide (fs.length + 1 ≤ 14) && fibB xs.length f) := by
      unfold goodB
      rw [insF_len, h1, g'.1.1.1, g'.1.2]; simp
    rw [e, Bool.true_and, Bool.true_and, Bool.and_comm]
    congr 1
def addX (xs : List ByteArray) (fs : List Fib) (f : Fib) : List ByteArray := if addB xs fs f then xs else []
def addF (xs : List ByteArray) (fs : List Fib) (f : Fib) : List Fib := if addB xs fs f then insF fs f else []
def addI (xs : List ByteArray) (fs : List Fib) (f : Fib) : Int := if addB xs fs f then atF fs f else 0
theorem goodB_sizes (h : goodB xs fs = true) : xs.length ≤ 8 ∧ fs.length ≤ 14 := by unfold goodB at h; simp at h; omega
theorem add_small (xs : List ByteArray) (fs : List Fib) (f : Fib) : (addX xs fs f).length ≤ 8 ∧ (addF xs fs f).length ≤ 14 := by
  unfold addX addF
  cases g : addB xs fs f
  · simp
  · rw [addB_eq, Bool.and_eq_true] at g
    have h1 := goodB_sizes g.1
    have h2 := goodB_sizes g.2
    simp; omega
end
end Go.Proofs.Ytjklphlgmlomjaa
/- AddFiber of the program, walked. Conditions: none. -/
namespace Go.Proofs.Ytjklphlgmlomjaa
open Go.RowKit
section
variable {n c m d : Nat} {A A' : Option Addr} {xs : List ByteArray} {fs : List Fib} {f : Fib}
set_option maxHeartbeats 4000000 in
set_option maxRecDepth 100000 in
theorem implAdd (w : World) (h : NetIs w A n c A' m d xs fs) :
    Calls Try.prog 47 #[.agg #[.slice A n c, .slice A' m d], .agg #[.int .i64 f.a, .int .i64 f.b, .int .i64 f.len, .int .i64 f.risk]] w fun e w' => ∃ A1 c1 A2 c2, e = .returned (.tuple #[.agg #[.slice A1 (addX xs fs f).length c1, .slice A2 (addF xs fs f).length c2], .int .i64 (addI xs fs f), .bool (addB xs fs f)]) ∧ NetOwn w' w.heap.size A1 (addX xs fs f).length c1 A2 (addF xs fs f).length c2 (addX xs fs f) (addF xs fs f) ∧ Below w.heap.size w w' := by
  have hS := (((Led.nil w).blk_ w.heap.size rfl 35 #[.slice A n c, .slice A' m d]).blk_ (w.heap.size + 1) (by simp) 64 #[.int .i64 f.a, .int .i64 f.b, .int .i64 f.len, .int .i64 f.risk]).blk_ (w.heap.size + 1 + 1) (by simp) 35 #[.slice none 0 0, .slice none 0 0]
  have HN := hid h
  have hlx := hid h.xlen
  have hlf := h.flen
  have hnn := h.nle
  have hmm := h.mle
  have hx := hid h.2.2.2.2
  clear h
  go_enter Try.func47, Try.ntmps47
  go_wp2_with fail
  refine (copyNetwork_any _ (HN.out.grow hS.bl)).mono ?_
  rintro e w1 ⟨A1, c1, A2, c2, rfl, hl⟩
  have hS1 := (hS.join hl).blk_ w1.heap.size rfl 35 #[.slice A1 n c1, .slice A2 m c2]
  simp only [List.cons_append, List.nil_append] at hS1
  have hbw1 := hl.bl.size
  generalize hbx : (((w.alloc (.cells #[.slice A n c, .slice A' m d] 35)).alloc (.cells #[.int .i64 f.a, .int .i64 f.b, .int .i64 f.len, .int .i64 f.risk] 64)).alloc (.cells #[.slice none 0 0, .slice none 0 0] 35)).heap.size = bx at hS1 hbw1
  have hbw : w.heap.size ≤ bx := by rw [← hbx]; exact hS.bl.size
  clear hbx hl hS
  go_wp2_with fail
  have HS : Hid (Led w (w1.alloc (.cells #[.slice A1 n c1, .slice A2 m c2] 35)) [tBlk w1.heap.size 35 #[.slice A1 n c1, .slice A2 m c2], tOwns elStr bx 9 (.slice A1 n c1) xs, tOwns elFib bx 64 (.slice A2 m c2) fs, tBlk (w.heap.size + 1 + 1) 35 #[.slice none 0 0, .slice none 0 0], tBlk (w.heap.size + 1) 64 #[.int .i64 f.a, .int .i64 f.b, .int .i64 f.len, .int .i64 f.risk], tBlk w.heap.size 35 #[.slice A n c, .slice A' m d]]) := hS1
  clear hS1
  go_loopw [8] (fun i wr => ∃ k : Nat, k ≤ m ∧ i = .int .i64 k ∧ allTo (aheadF fs f) k ∧ Hid (bx ≤ wr.heap.size) ∧ Hid (Led w wr [tBlk w1.heap.size 35 #[.slice A1 n c1, .slice A2 m c2], tOwns elStr bx 9 (.slice A1 n c1) xs, tOwns elFib bx 64 (.slice A2 m c2) fs, tBlk (w.heap.size + 1 + 1) 35 #[.slice none 0 0, .slice none 0 0], tBlk (w.heap.size + 1) 64 #[.int .i64 f.a, .int .i64 f.b, .int .i64 f.len, .int .i64 f.risk], tBlk w.heap.size 35 #[.slice A n c, .slice A' m d]])) (fun i _ => m - (intOf i).toNat)
  case atStart => exact ⟨0, Nat.zero_le _, rfl, allTo_zero _, Nat.le_trans hbw1 (by simp), HS⟩
  case round =>
    clear HS
    obtain ⟨k, hk, rfl, hall, hbxw, HS⟩ := hrel
    have D0 : ∀ w', Cls wr w' → w'.cell? ⟨w.heap.size, 1, none⟩ = some (.slice A' m d) := fun _ h => h.cell (HS.out.cell 5 1 rfl rfl)
    have E0 : ∀ w', Cls wr w' → w'.cell? ⟨w.heap.size + 1, 0, none⟩ = some (.int .i64 f.a) := fun _ h => h.cell (HS.out.cell 4 0 rfl rfl)
    have E1 : ∀ w', Cls wr w' → w'.cell? ⟨w.heap.size + 1, 1, none⟩ = some (.int .i64 f.b) := fun _ h => h.cell (HS.out.cell 4 1 rfl rfl)
    have E2 : ∀ w', Cls wr w' → w'.cell? ⟨w.heap.size + 1, 2, none⟩ = some (.int .i64 f.len) := fun _ h => h.cell (HS.out.cell 4 2 rfl rfl)
    have E3 : ∀ w', Cls wr w' → w'.cell? ⟨w.heap.size + 1, 3, none⟩ = some (.int .i64 f.risk) := fun _ h => h.cell (HS.out.cell 4 3 rfl rfl)
    by_cases hlt : k < m
    · obtain ⟨b, o, rfl, _, hc⟩ := HN.out.fibs.at_ hlt
      obtain ⟨x, hxk⟩ := get_of (k := k) hlf hlt
      have f0 := bl_cell HS.out.bl (hc k x hxk 0 _ rfl)
      have f1 := bl_cell HS.out.bl (hc k x hxk 1 _ rfl)
      have f2 := bl_cell HS.out.bl (hc k x hxk 2 _ rfl)
      have f3 := bl_cell HS.out.bl (hc k x hxk 3 _ rfl)
      simp only [elFib, Nat.add_zero] at f0 f1 f2 f3
      have F0 : ∀ w', Cls wr w' → w'.cell? ⟨b, o + k * 4, none⟩ = some (.int .i64 x.a) := fun _ h => h.cell f0
      have F1 : ∀ w', Cls wr w' → w'.cell? ⟨b, o + k * 4 + 1, none⟩ = some (.int .i64 x.b) := fun _ h => h.cell f1
      have F2 : ∀ w', Cls wr w' → w'.cell? ⟨b, o + k * 4 + 2, none⟩ = some (.int .i64 x.len) := fun _ h => h.cell f2
      have F3 : ∀ w', Cls wr w' → w'.cell? ⟨b, o + k * 4 + 3, none⟩ = some (.int .i64 x.risk) := fun _ h => h.cell f3
      have iz : (k : Int) < (m : Int) := by omega
      have HA : Hid (aheadF fs f k = decide (cmpFib x f ≤ 0)) := by unfold Hid aheadF; rw [getD_of hxk]
      clear hc f0 f1 f2 f3
      by_cases hcmp : cmpFib x f ≤ 0
      · have hd : decide (cmpFib x f ≤ 0) = true := decide_eq_true hcmp
        have HY : Hid (allTo (aheadF fs f) (k + 1)) := allTo_succ hall (by rw [HA.out]; exact hd)
        clear hall HA hxk
        go_wp2_with fail
        refine region_cls (by kernel_rfl) (by kernel_rfl) ?_
        repeat (first
          | ((with_reducible refine quiet_pos ?_ (fun K hK => ?_))
             · rfl
             apply Exists.intro
             refine ⟨fun w' hw' => ?_, ?_⟩
             · go_simp
               first
                 | with_reducible rfl
                 | (go_at_call 97; exact hw'.call (compareFibers_any x f _))
             simp only [Act.put, List.setIfInBounds_toArray, List.set_cons_zero, List.set_cons_succ]
             refine hK _ ?_; clear hK K)
          | ((with_reducible refine quiet_neg ?_ (fun K hK => ?_))
             · rfl
             simp only [Act.put, List.setIfInBounds_toArray, List.set_cons_zero, List.set_cons_succ]
             refine hK _ ?_; clear hK K))
        with_reducible refine wpQuiet_nil ?_
        intro wz hwz'
        have HS1 := hid (HS.out.step hwz')
        have hb9 : Hid (bx ≤ wz.heap.size) := Nat.le_trans hbxw.out hwz'.size
        clear HS D0 E0 E1 E2 E3 F0 F1 F2 F3 hwz' hbxw
        go_wp2
        go_roundw
        case rel => exact ⟨k + 1, by omega, by go_num, HY.out, hb9, HS1⟩
        case measure => simp [intOf]; omega
      · have hd : decide (cmpFib x f ≤ 0) = false := decide_eq_false hcmp
        have hat : Hid (atF fs f = k) := atF_is (by rw [hlf]; exact hk) hall (.inr (by rw [HA.out]; exact hd))
        have hins : Hid (fs.take k ++ f :: fs.drop k = insF fs f) := by unfold Hid insF; rw [hat.out]
        clear hall HA hxk
        go_wp2_with fail
        refine region_cls (by kernel_rfl) (by kernel_rfl) ?_
        repeat (first
          | ((with_reducible refine quiet_pos ?_ (fun K hK => ?_))
             · rfl
             apply Exists.intro
             refine ⟨fun w' hw' => ?_, ?_⟩
             · go_simp
               first
                 | with_reducible rfl
                 | (go_at_call 97; exact hw'.call (compareFibers_any x f _))
             simp only [Act.put, List.setIfInBounds_toArray, List.set_cons_zero, List.set_cons_succ]
             refine hK _ ?_; clear hK K)
          | ((with_reducible refine quiet_neg ?_ (fun K hK => ?_))
             · rfl
             simp only [Act.put, List.setIfInBounds_toArray, List.set_cons_zero, List.set_cons_succ]
             refine hK _ ?_; clear hK K))
        with_reducible refine wpQuiet_nil ?_
        intro wz hwz'
        clear F0 F1 F2 F3
        -- the place is found: hat
        replace HS := hid (HS.out.step hwz')
        have hbz : bx ≤ wz.heap.size := Nat.le_trans hbxw.out hwz'.size
        have p0 := HS.out.cell 0 1 rfl rfl
        have e0 := HS.out.cell 4 0 rfl rfl
        have e1 := HS.out.cell 4 1 rfl rfl
        have e2 := HS.out.cell 4 2 rfl rfl
        have e3 := HS.out.cell 4 3 rfl rfl
        clear D0 E0 E1 E2 E3 hwz'
        go_wp2_with fail
        have HS2 := hid (HS.out.blk_ wz.heap.size rfl 64 #[.int .i64 f.a, .int .i64 f.b, .int .i64 f.len, .int .i64 f.risk])
        refine (insert1_led HS2.out 3 rfl 0 rfl (by decide) hk hmm (by simp; omega)).mono ?_
        rintro e w3 ⟨A3, c3, rfl, hS3⟩
        rw [hins.out] at hS3
        have p1 := hS3.cell 1 1 rfl rfl
        have z1 := hS3.frozen 1 1 rfl
        have HS4 := hid ((hS3.set 1 rfl 1 (.slice A3 (m + 1) c3)).drop 1)
        have q0 := HS4.out.cell 5 0 rfl rfl
        have q1 := HS4.out.cell 5 1 rfl rfl
        clear HS2 HS hS3 p0 e0 e1 e2 e3
        go_wp2_with fail
        refine (validN _ (HN.out.grow HS4.out.bl)).mono ?_
        rintro e w4 ⟨rfl, hb4⟩
        have HS5 := hid (HS4.out.step hb4)
        clear hb4 q0 q1 p1 z1
        cases g : goodB xs fs
        · have hB : Hid (addB xs fs f = false) := by unfold Hid; rw [addB_eq, g]; rfl
          have HSZ := HS5
          have H : Hid (addX xs fs f = [] ∧ addF xs fs f = [] ∧ addI xs fs f = 0) := by unfold Hid addX addF addI; rw [hB.out]; exact ⟨rfl, rfl, rfl⟩
          have y0 := HSZ.out.cell 3 0 rfl rfl
          have y1 := HSZ.out.cell 3 1 rfl rfl
          have z0 := HSZ.out.frozen 3 0 rfl
          have z1 := HSZ.out.frozen 3 1 rfl
          have HE := hid ((HSZ.out.set 3 rfl 0 (.slice none 0 0)).set 3 rfl 1 (.slice none 0 0))
          go_wp2
          exact bodyPost_ret (v := .tuple #[.agg #[.slice none 0 0, .slice none 0 0], .int .i64 0, .bool false]) (by simp [results, Try.results47, go_sem, y0, y1]) rfl
            ⟨none, 0, none, 0, by rw [hB.out, H.out.1, H.out.2.1, H.out.2.2]; rfl, by rw [H.out.1, H.out.2.1]; exact ⟨Nat.le_refl _, by decide, Nat.le_refl _, by decide, rfl, rfl, World.ownsRow_nil _ _ _ _, World.ownsRow_nil _ _ _ _⟩, HE.out.bl⟩
        · have hm14 := (goodB_bd g).2.2
          rw [hlf] at hm14
          have p0 := HS5.out.cell 0 0 rfl rfl
          have p1 := HS5.out.cell 0 1 rfl rfl
          have hNO := HS5.out.netOwn2 (b0 := w.heap.size) 1 2 rfl rfl hlx.out.symm (show m + 1 = (insF fs f).length by rw [insF_len, hlf]) hbw hbw
          have HNO := hid hNO
          have HNI := hid (NetOwn.is hNO hnn (by omega) hx.out)
          clear hNO
          go_wp2_with fail
          refine (validN _ HNI.out).mono ?_
          rintro e w5 ⟨rfl, hb5⟩
          have HSZ := hid (HS5.out.step hb5)
          clear hb5 p0 p1 HNO HNI
          cases g2 : goodB xs (insF fs f)
          · have hB : Hid (addB xs fs f = false) := by unfold Hid; rw [addB_eq, g2, Bool.and_false]
            have H : Hid (addX xs fs f = [] ∧ addF xs fs f = [] ∧ addI xs fs f = 0) := by unfold Hid addX addF addI; rw [hB.out]; exact ⟨rfl, rfl, rfl⟩
            have y0 := HSZ.out.cell 3 0 rfl rfl
            have y1 := HSZ.out.cell 3 1 rfl rfl
            have z0 := HSZ.out.frozen 3 0 rfl
            have z1 := HSZ.out.frozen 3 1 rfl
            have HE := hid ((HSZ.out.set 3 rfl 0 (.slice none 0 0)).set 3 rfl 1 (.slice none 0 0))
            go_wp2
            exact bodyPost_ret (v := .tuple #[.agg #[.slice none 0 0, .slice none 0 0], .int .i64 0, .bool false]) (by simp [results, Try.results47, go_sem, y0, y1]) rfl
              ⟨none, 0, none, 0, by rw [hB.out, H.out.1, H.out.2.1, H.out.2.2]; rfl, by rw [H.out.1, H.out.2.1]; exact ⟨Nat.le_refl _, by decide, Nat.le_refl _, by decide, rfl, rfl, World.ownsRow_nil _ _ _ _, World.ownsRow_nil _ _ _ _⟩, HE.out.bl⟩
          · have hB : Hid (addB xs fs f = true) := by unfold Hid; rw [addB_eq, g, g2]; rfl
            have H : Hid (addX xs fs f = xs ∧ addF xs fs f = insF fs f ∧ addI xs fs f = (k : Int)) := by unfold Hid addX addF addI; rw [hB.out, hat.out]; exact ⟨rfl, rfl, rfl⟩
            have hil : Hid ((insF fs f).length = m + 1) := by unfold Hid; rw [insF_len, hlf]
            have p0 := HSZ.out.cell 0 0 rfl rfl
            have p1 := HSZ.out.cell 0 1 rfl rfl
            have y0 := HSZ.out.cell 3 0 rfl rfl
            have y1 := HSZ.out.cell 3 1 rfl rfl
            have z0 := HSZ.out.frozen 3 0 rfl
            have z1 := HSZ.out.frozen 3 1 rfl
            have HE := hid ((HSZ.out.set 3 rfl 0 (.slice A1 n c1)).set 3 rfl 1 (.slice A3 (m + 1) c3))
            go_wp2
            exact bodyPost_ret (v := .tuple #[.agg #[.slice A1 n c1, .slice A3 (m + 1) c3], .int .i64 k, .bool true]) (by simp [results, Try.results47, go_sem, y0, y1]) rfl
              ⟨A1, c1, A3, c3, by rw [hB.out, H.out.1, H.out.2.1, H.out.2.2, hlx.out, hil.out], by rw [H.out.1, H.out.2.1, hlx.out, hil.out]; exact HE.out.netOwn2 1 2 rfl rfl hlx.out.symm hil.out.symm hbw hbw, HE.out.bl⟩
    · have hkm : k = m := by omega
      have iz : ¬ ((k : Int) < (m : Int)) := by omega
      have hat : Hid (atF fs f = k) := atF_is (by rw [hlf]; exact hk) hall (.inl (by rw [hlf]; exact hkm))
      have hins : Hid (fs.take k ++ f :: fs.drop k = insF fs f) := by unfold Hid insF; rw [hat.out]
      clear hall hkm
      go_wp2_with fail
      refine region_cls (by kernel_rfl) (by kernel_rfl) ?_
      repeat (first
        | ((with_reducible refine quiet_pos ?_ (fun K hK => ?_))
           · rfl
           apply Exists.intro
           refine ⟨fun w' hw' => ?_, ?_⟩
           · go_simp
             with_reducible rfl
           simp only [Act.put, List.setIfInBounds_toArray, List.set_cons_zero, List.set_cons_succ]
           refine hK _ ?_; clear hK K)
        | ((with_reducible refine quiet_neg ?_ (fun K hK => ?_))
           · rfl
           simp only [Act.put, List.setIfInBounds_toArray, List.set_cons_zero, List.set_cons_succ]
           refine hK _ ?_; clear hK K))
      with_reducible refine wpQuiet_nil ?_
      intro wz hwz'
      -- the place is found: hat
      replace HS := hid (HS.out.step hwz')
      have hbz : bx ≤ wz.heap.size := Nat.le_trans hbxw.out hwz'.size
      have p0 := HS.out.cell 0 1 rfl rfl
      have e0 := HS.out.cell 4 0 rfl rfl
      have e1 := HS.out.cell 4 1 rfl rfl
      have e2 := HS.out.cell 4 2 rfl rfl
      have e3 := HS.out.cell 4 3 rfl rfl
      clear D0 E0 E1 E2 E3 hwz'
      go_wp2_with fail
      have HS2 := hid (HS.out.blk_ wz.heap.size rfl 64 #[.int .i64 f.a, .int .i64 f.b, .int .i64 f.len, .int .i64 f.risk])
      refine (insert1_led HS2.out 3 rfl 0 rfl (by decide) hk hmm (by simp; omega)).mono ?_
      rintro e w3 ⟨A3, c3, rfl, hS3⟩
      rw [hins.out] at hS3
      have p1 := hS3.cell 1 1 rfl rfl
      have z1 := hS3.frozen 1 1 rfl
      have HS4 := hid ((hS3.set 1 rfl 1 (.slice A3 (m + 1) c3)).drop 1)
      have q0 := HS4.out.cell 5 0 rfl rfl
      have q1 := HS4.out.cell 5 1 rfl rfl
      clear HS2 HS hS3 p0 e0 e1 e2 e3
      go_wp2_with fail
      refine (validN _ (HN.out.grow HS4.out.bl)).mono ?_
      rintro e w4 ⟨rfl, hb4⟩
      have HS5 := hid (HS4.out.step hb4)
      clear hb4 q0 q1 p1 z1
      cases g : goodB xs fs
      · have hB : Hid (addB xs fs f = false) := by unfold Hid; rw [addB_eq, g]; rfl
        have HSZ := HS5
        have H : Hid (addX xs fs f = [] ∧ addF xs fs f = [] ∧ addI xs fs f = 0) := by unfold Hid addX addF addI; rw [hB.out]; exact ⟨rfl, rfl, rfl⟩
        have y0 := HSZ.out.cell 3 0 rfl rfl
        have y1 := HSZ.out.cell 3 1 rfl rfl
        have z0 := HSZ.out.frozen 3 0 rfl
        have z1 := HSZ.out.frozen 3 1 rfl
        have HE := hid ((HSZ.out.set 3 rfl 0 (.slice none 0 0)).set 3 rfl 1 (.slice none 0 0))
        go_wp2
        exact bodyPost_ret (v := .tuple #[.agg #[.slice none 0 0, .slice none 0 0], .int .i64 0, .bool false]) (by simp [results, Try.results47, go_sem, y0, y1]) rfl
          ⟨none, 0, none, 0, by rw [hB.out, H.out.1, H.out.2.1, H.out.2.2]; rfl, by rw [H.out.1, H.out.2.1]; exact ⟨Nat.le_refl _, by decide, Nat.le_refl _, by decide, rfl, rfl, World.ownsRow_nil _ _ _ _, World.ownsRow_nil _ _ _ _⟩, HE.out.bl⟩
      · have hm14 := (goodB_bd g).2.2
        rw [hlf] at hm14
        have p0 := HS5.out.cell 0 0 rfl rfl
        have p1 := HS5.out.cell 0 1 rfl rfl
        have hNO := HS5.out.netOwn2 (b0 := w.heap.size) 1 2 rfl rfl hlx.out.symm (show m + 1 = (insF fs f).length by rw [insF_len, hlf]) hbw hbw
        have HNO := hid hNO
        have HNI := hid (NetOwn.is hNO hnn (by omega) hx.out)
        clear hNO
        go_wp2_with fail
        refine (validN _ HNI.out).mono ?_
        rintro e w5 ⟨rfl, hb5⟩
        have HSZ := hid (HS5.out.step hb5)
        clear hb5 p0 p1 HNO HNI
        cases g2 : goodB xs (insF fs f)
        · have hB : Hid (addB xs fs f = false) := by unfold Hid; rw [addB_eq, g2, Bool.and_false]
          have H : Hid (addX xs fs f = [] ∧ addF xs fs f = [] ∧ addI xs fs f = 0) := by unfold Hid addX addF addI; rw [hB.out]; exact ⟨rfl, rfl, rfl⟩
          have y0 := HSZ.out.cell 3 0 rfl rfl
          have y1 := HSZ.out.cell 3 1 rfl rfl
          have z0 := HSZ.out.frozen 3 0 rfl
          have z1 := HSZ.out.frozen 3 1 rfl
          have HE := hid ((HSZ.out.set 3 rfl 0 (.slice none 0 0)).set 3 rfl 1 (.slice none 0 0))
          go_wp2
          exact bodyPost_ret (v := .tuple #[.agg #[.slice none 0 0, .slice none 0 0], .int .i64 0, .bool false]) (by simp [results, Try.results47, go_sem, y0, y1]) rfl
            ⟨none, 0, none, 0, by rw [hB.out, H.out.1, H.out.2.1, H.out.2.2]; rfl, by rw [H.out.1, H.out.2.1]; exact ⟨Nat.le_refl _, by decide, Nat.le_refl _, by decide, rfl, rfl, World.ownsRow_nil _ _ _ _, World.ownsRow_nil _ _ _ _⟩, HE.out.bl⟩
        · have hB : Hid (addB xs fs f = true) := by unfold Hid; rw [addB_eq, g, g2]; rfl
          have H : Hid (addX xs fs f = xs ∧ addF xs fs f = insF fs f ∧ addI xs fs f = (k : Int)) := by unfold Hid addX addF addI; rw [hB.out, hat.out]; exact ⟨rfl, rfl, rfl⟩
          have hil : Hid ((insF fs f).length = m + 1) := by unfold Hid; rw [insF_len, hlf]
          have p0 := HSZ.out.cell 0 0 rfl rfl
          have p1 := HSZ.out.cell 0 1 rfl rfl
          have y0 := HSZ.out.cell 3 0 rfl rfl
          have y1 := HSZ.out.cell 3 1 rfl rfl
          have z0 := HSZ.out.frozen 3 0 rfl
          have z1 := HSZ.out.frozen 3 1 rfl
          have HE := hid ((HSZ.out.set 3 rfl 0 (.slice A1 n c1)).set 3 rfl 1 (.slice A3 (m + 1) c3))
          go_wp2
          exact bodyPost_ret (v := .tuple #[.agg #[.slice A1 n c1, .slice A3 (m + 1) c3], .int .i64 k, .bool true]) (by simp [results, Try.results47, go_sem, y0, y1]) rfl
            ⟨A1, c1, A3, c3, by rw [hB.out, H.out.1, H.out.2.1, H.out.2.2, hlx.out, hil.out], by rw [H.out.1, H.out.2.1, hlx.out, hil.out]; exact HE.out.netOwn2 1 2 rfl rfl hlx.out.symm hil.out.symm hbw hbw, HE.out.bl⟩
end
end Go.Proofs.Ytjklphlgmlomjaa
/- AddFiber of the reference, walked. Conditions: none. -/
namespace Go.Proofs.Ytjklphlgmlomjaa
open Go.RowKit
theorem Sees.backE {α : Type} {E : El α} {w : World} {B b o n k : Nat} {l : List α} (h : Sees E w B (some ⟨b, o, none⟩) n l) (hk : k ≤ n) : Sees E w B (some ⟨b, o + k * E.sz, none⟩) (n - k) (l.drop k) := by
  refine ⟨by rw [List.length_drop, h.1], ?_⟩
  rcases h.2 with h0 | ⟨b', o', e, hb, hc⟩
  · exact .inl (by omega)
  · injection e with e
    injection e with e1 e2
    subst e1 e2
    refine .inr ⟨b, _, rfl, hb, fun j x hx i u hu => ?_⟩
    rw [List.getElem?_drop] at hx
    have h1 := hc (k + j) x hx i u hu
    have e : o + (k + j) * E.sz + i = o + k * E.sz + j * E.sz + i := by rw [Nat.add_mul]; omega
    rw [← e]; exact h1
section
variable {n c m d : Nat} {A A' : Option Addr} {xs : List ByteArray} {fs : List Fib} {f : Fib}
set_option maxHeartbeats 1000000 in
set_option maxRecDepth 100000 in
theorem specAdd (w : World) (h : NetIs w A n c A' m d xs fs) :
    Calls Try.prog 45 #[.agg #[.slice A n c, .slice A' m d], .agg #[.int .i64 f.a, .int .i64 f.b, .int .i64 f.len, .int .i64 f.risk]] w fun e w' => ∃ A1 c1 A2 c2, e = .returned (.tuple #[.agg #[.slice A1 (addX xs fs f).length c1, .slice A2 (addF xs fs f).length c2], .int .i64 (addI xs fs f), .bool (addB xs fs f)]) ∧ NetOwn w' w.heap.size A1 (addX xs fs f).length c1 A2 (addF xs fs f).length c2 (addX xs fs f) (addF xs fs f) ∧ Below w.heap.size w w' := by
  have hS := (((Led.nil w).blk_ w.heap.size rfl 35 #[.slice A n c, .slice A' m d]).blk_ (w.heap.size + 1) (by simp) 64 #[.int .i64 f.a, .int .i64 f.b, .int .i64 f.len, .int .i64 f.risk]).blk_ (w.heap.size + 1 + 1) (by simp) 35 #[.slice none 0 0, .slice none 0 0]
  obtain ⟨j0, hj, hy0, hy1, hy2⟩ := info_parts fib_info
  have HN := hid h
  have hlx := hid h.xlen
  have hlf := h.flen
  have hnn := h.nle
  have hmm := h.mle
  have hmd : m ≤ d := h.2.1.1
  clear h
  cases g : goodB xs fs
  · have hB : Hid (addB xs fs f = false) := by unfold Hid addB; rw [g]; rfl
    go_enter Try.func45, Try.ntmps45
    go_wp2_with fail
    refine (goodN _ (HN.out.grow hS.bl)).mono ?_
    rintro e w1 ⟨rfl, hb⟩
    rw [g]
    replace hS := hS.step hb
    clear hb
    have H : Hid (addX xs fs f = [] ∧ addF xs fs f = [] ∧ addI xs fs f = 0) := by unfold Hid addX addF addI; rw [hB.out]; exact ⟨rfl, rfl, rfl⟩
    have y0 := hS.cell 0 0 rfl rfl
    have z0 := hS.frozen 0 0 rfl
    have y1 := hS.cell 0 1 rfl rfl
    have z1 := hS.frozen 0 1 rfl
    have HE := hid ((hS.set 0 rfl 0 (.slice none 0 0)).set 0 rfl 1 (.slice none 0 0))
    go_wp2_with fail
    exact bodyPost_ret (v := .tuple #[.agg #[.slice none 0 0, .slice none 0 0], .int .i64 0, .bool false]) (by simp [results, Try.results45, go_sem, y0, y1]) rfl
      ⟨none, 0, none, 0, by rw [hB.out, H.out.1, H.out.2.1, H.out.2.2]; rfl, by rw [H.out.1, H.out.2.1]; exact ⟨Nat.le_refl _, by decide, Nat.le_refl _, by decide, rfl, rfl, World.ownsRow_nil _ _ _ _, World.ownsRow_nil _ _ _ _⟩, HE.out.bl⟩
  · cases g2 : fibB n f
    · have hB : Hid (addB xs fs f = false) := by unfold Hid addB; rw [g, hlx.out, g2]; rfl
      go_enter Try.func45, Try.ntmps45
      go_wp2_with fail
      refine (goodN _ (HN.out.grow hS.bl)).mono ?_
      rintro e w1 ⟨rfl, hb⟩
      rw [g]
      replace hS := hS.step hb
      clear hb
      have e0 := hS.cell 1 0 rfl rfl
      have e1 := hS.cell 1 1 rfl rfl
      have e2 := hS.cell 1 2 rfl rfl
      have e3 := hS.cell 1 3 rfl rfl
      have p0 := hS.cell 2 0 rfl rfl
      go_wp2_with fail
      refine (l2Fiber_any f n _ hnn).mono ?_
      rintro e w2 ⟨rfl, hb⟩
      rw [g2]
      replace hS := hS.step hb
      clear hb e0 e1 e2 e3 p0
      have H : Hid (addX xs fs f = [] ∧ addF xs fs f = [] ∧ addI xs fs f = 0) := by unfold Hid addX addF addI; rw [hB.out]; exact ⟨rfl, rfl, rfl⟩
      have y0 := hS.cell 0 0 rfl rfl
      have z0 := hS.frozen 0 0 rfl
      have y1 := hS.cell 0 1 rfl rfl
      have z1 := hS.frozen 0 1 rfl
      have HE := hid ((hS.set 0 rfl 0 (.slice none 0 0)).set 0 rfl 1 (.slice none 0 0))
      go_wp2_with fail
      exact bodyPost_ret (v := .tuple #[.agg #[.slice none 0 0, .slice none 0 0], .int .i64 0, .bool false]) (by simp [results, Try.results45, go_sem, y0, y1]) rfl
        ⟨none, 0, none, 0, by rw [hB.out, H.out.1, H.out.2.1, H.out.2.2]; rfl, by rw [H.out.1, H.out.2.1]; exact ⟨Nat.le_refl _, by decide, Nat.le_refl _, by decide, rfl, rfl, World.ownsRow_nil _ _ _ _, World.ownsRow_nil _ _ _ _⟩, HE.out.bl⟩
    · have hm14 := (goodB_bd g).2.2
      rw [hlf] at hm14
      by_cases h14 : m = 14
      · have hB : Hid (addB xs fs f = false) := by unfold Hid addB; rw [g, hlx.out, g2, decide_eq_false (by omega)]; rfl
        have i14 : ((m : Int) == 14) = true := by rw [h14]; rfl
        clear h14
        go_enter Try.func45, Try.ntmps45
        go_wp2_with fail
        refine (goodN _ (HN.out.grow hS.bl)).mono ?_
        rintro e w1 ⟨rfl, hb⟩
        rw [g]
        replace hS := hS.step hb
        clear hb
        have e0 := hS.cell 1 0 rfl rfl
        have e1 := hS.cell 1 1 rfl rfl
        have e2 := hS.cell 1 2 rfl rfl
        have e3 := hS.cell 1 3 rfl rfl
        have p0 := hS.cell 2 0 rfl rfl
        go_wp2_with fail
        refine (l2Fiber_any f n _ hnn).mono ?_
        rintro e w2 ⟨rfl, hb⟩
        rw [g2]
        replace hS := hS.step hb
        clear hb e0 e1 e2 e3 p0
        have p1 := hS.cell 2 1 rfl rfl
        have H : Hid (addX xs fs f = [] ∧ addF xs fs f = [] ∧ addI xs fs f = 0) := by unfold Hid addX addF addI; rw [hB.out]; exact ⟨rfl, rfl, rfl⟩
        have y0 := hS.cell 0 0 rfl rfl
        have z0 := hS.frozen 0 0 rfl
        have y1 := hS.cell 0 1 rfl rfl
        have z1 := hS.frozen 0 1 rfl
        have HE := hid ((hS.set 0 rfl 0 (.slice none 0 0)).set 0 rfl 1 (.slice none 0 0))
        go_wp2_with fail
        exact bodyPost_ret (v := .tuple #[.agg #[.slice none 0 0, .slice none 0 0], .int .i64 0, .bool false]) (by simp [results, Try.results45, go_sem, y0, y1]) rfl
          ⟨none, 0, none, 0, by rw [hB.out, H.out.1, H.out.2.1, H.out.2.2]; rfl, by rw [H.out.1, H.out.2.1]; exact ⟨Nat.le_refl _, by decide, Nat.le_refl _, by decide, rfl, rfl, World.ownsRow_nil _ _ _ _, World.ownsRow_nil _ _ _ _⟩, HE.out.bl⟩
      · have hB : Hid (addB xs fs f = true) := by unfold Hid addB; rw [g, hlx.out, g2, decide_eq_true (by omega)]; rfl
        have i14 : ((m : Int) == 14) = false := by simp; omega
        have hsf := hid (smallF_of hnn g2)
        have hsx : Hid (∀ x ∈ fs, smallF x) := fun x hx => smallF_of (n := n) hnn (by have := goodB_fibB g hx; rw [hlx.out] at this; exact this)
        go_enter Try.func45, Try.ntmps45
        go_wp2_with fail
        refine (goodN _ (HN.out.grow hS.bl)).mono ?_
        rintro e w1 ⟨rfl, hb⟩
        rw [g]
        replace hS := hS.step hb
        clear hb
        have e0 := hS.cell 1 0 rfl rfl
        have e1 := hS.cell 1 1 rfl rfl
        have e2 := hS.cell 1 2 rfl rfl
        have e3 := hS.cell 1 3 rfl rfl
        have p0 := hS.cell 2 0 rfl rfl
        go_wp2_with fail
        refine (l2Fiber_any f n _ hnn).mono ?_
        rintro e w2 ⟨rfl, hb⟩
        rw [g2]
        replace hS := hS.step hb
        clear hb e0 e1 e2 e3 p0
        have p1 := hS.cell 2 1 rfl rfl
        go_wp2_with fail
        have HS := hid hS
        clear hS p1
        go_loopw [7] (fun i wr => ∃ k : Nat, k ≤ m ∧ i = .int .i64 k ∧ allTo (aheadF fs f) k ∧ Hid (Led w wr [tBlk (w.heap.size + 1 + 1) 35 #[.slice none 0 0, .slice none 0 0], tBlk (w.heap.size + 1) 64 #[.int .i64 f.a, .int .i64 f.b, .int .i64 f.len, .int .i64 f.risk], tBlk w.heap.size 35 #[.slice A n c, .slice A' m d]])) (fun i _ => m - (intOf i).toNat)
        case atStart => exact ⟨0, Nat.zero_le _, rfl, allTo_zero _, HS⟩
        case round =>
          clear HS
          obtain ⟨k, hk, rfl, hall, HS⟩ := hrel
          have D0 : ∀ w', Cls wr w' → w'.cell? ⟨w.heap.size, 1, none⟩ = some (.slice A' m d) := fun _ h => h.cell (HS.out.cell 2 1 rfl rfl)
          have E0 : ∀ w', Cls wr w' → w'.cell? ⟨w.heap.size + 1, 0, none⟩ = some (.int .i64 f.a) := fun _ h => h.cell (HS.out.cell 1 0 rfl rfl)
          have E1 : ∀ w', Cls wr w' → w'.cell? ⟨w.heap.size + 1, 1, none⟩ = some (.int .i64 f.b) := fun _ h => h.cell (HS.out.cell 1 1 rfl rfl)
          have E2 : ∀ w', Cls wr w' → w'.cell? ⟨w.heap.size + 1, 2, none⟩ = some (.int .i64 f.len) := fun _ h => h.cell (HS.out.cell 1 2 rfl rfl)
          have E3 : ∀ w', Cls wr w' → w'.cell? ⟨w.heap.size + 1, 3, none⟩ = some (.int .i64 f.risk) := fun _ h => h.cell (HS.out.cell 1 3 rfl rfl)
          by_cases hlt : k < m
          · obtain ⟨b, o, rfl, _, hc⟩ := HN.out.fibs.at_ hlt
            obtain ⟨x, hxk⟩ := get_of (k := k) hlf hlt
            have f0 := bl_cell HS.out.bl (hc k x hxk 0 _ rfl)
            have f1 := bl_cell HS.out.bl (hc k x hxk 1 _ rfl)
            have f2 := bl_cell HS.out.bl (hc k x hxk 2 _ rfl)
            have f3 := bl_cell HS.out.bl (hc k x hxk 3 _ rfl)
            simp only [elFib, Nat.add_zero] at f0 f1 f2 f3
            have F0 : ∀ w', Cls wr w' → w'.cell? ⟨b, o + k * 4, none⟩ = some (.int .i64 x.a) := fun _ h => h.cell f0
            have F1 : ∀ w', Cls wr w' → w'.cell? ⟨b, o + k * 4 + 1, none⟩ = some (.int .i64 x.b) := fun _ h => h.cell f1
            have F2 : ∀ w', Cls wr w' → w'.cell? ⟨b, o + k * 4 + 2, none⟩ = some (.int .i64 x.len) := fun _ h => h.cell f2
            have F3 : ∀ w', Cls wr w' → w'.cell? ⟨b, o + k * 4 + 3, none⟩ = some (.int .i64 x.risk) := fun _ h => h.cell f3
            have iz : (k : Int) < (m : Int) := by omega
            have HA : Hid (aheadF fs f k = decide (cmpFib x f ≤ 0)) := by unfold Hid aheadF; rw [getD_of hxk]
            have hsx1 := hid (hsx.out x (List.mem_of_getElem? hxk))
            have hle := befF_le x f
            clear hc f0 f1 f2 f3
            by_cases hcmp : befF x f ≤ 0
            · have hd : decide (befF x f ≤ 0) = true := decide_eq_true hcmp
              have HY : Hid (allTo (aheadF fs f) (k + 1)) := allTo_succ hall (by rw [HA.out]; exact decide_eq_true (hle.1 hcmp))
              clear hall HA hxk hle
              go_wp2_with fail
              refine region_cls (by kernel_rfl) (by kernel_rfl) ?_
              repeat (first
                | ((with_reducible refine quiet_pos ?_ (fun K hK => ?_))
                   · rfl
                   apply Exists.intro
                   refine ⟨fun w' hw' => ?_, ?_⟩
                   · go_simp
                     first
                       | with_reducible rfl
                       | (go_at_call 94; exact hw'.call (l2Before_any x f _ hsx1.out hsf.out))
                   simp only [Act.put, List.setIfInBounds_toArray, List.set_cons_zero, List.set_cons_succ]
                   refine hK _ ?_; clear hK K)
                | ((with_reducible refine quiet_neg ?_ (fun K hK => ?_))
                   · rfl
                   simp only [Act.put, List.setIfInBounds_toArray, List.set_cons_zero, List.set_cons_succ]
                   refine hK _ ?_; clear hK K))
              with_reducible refine wpQuiet_nil ?_
              intro wz hwz'
              have HS1 := hid (HS.out.step hwz')
              clear HS D0 E0 E1 E2 E3 F0 F1 F2 F3 hwz'
              go_wp2
              go_roundw
              case rel => exact ⟨k + 1, by omega, by go_num, HY.out, HS1⟩
              case measure => simp [intOf]; omega
            · have hd : decide (befF x f ≤ 0) = false := decide_eq_false hcmp
              have hat : Hid (atF fs f = k) := atF_is (by rw [hlf]; exact hk) hall (.inr (by rw [HA.out]; exact decide_eq_false (fun e => hcmp (hle.2 e))))
              have hins : Hid (fs.take k ++ f :: fs.drop k = insF fs f) := by unfold Hid insF; rw [hat.out]
              clear hall HA hxk hle
              go_wp2_with fail
              refine region_cls (by kernel_rfl) (by kernel_rfl) ?_
              repeat (first
                | ((with_reducible refine quiet_pos ?_ (fun K hK => ?_))
                   · rfl
                   apply Exists.intro
                   refine ⟨fun w' hw' => ?_, ?_⟩
                   · go_simp
                     first
                       | with_reducible rfl
                       | (go_at_call 94; exact hw'.call (l2Before_any x f _ hsx1.out hsf.out))
                   simp only [Act.put, List.setIfInBounds_toArray, List.set_cons_zero, List.set_cons_succ]
                   refine hK _ ?_; clear hK K)
                | ((with_reducible refine quiet_neg ?_ (fun K hK => ?_))
                   · rfl
                   simp only [Act.put, List.setIfInBounds_toArray, List.set_cons_zero, List.set_cons_succ]
                   refine hK _ ?_; clear hK K))
              with_reducible refine wpQuiet_nil ?_
              intro wz hwz'
              clear F0 F1 F2 F3
              have hdk : ¬ (d = k) := by omega
              have hkd : (k : Int) ≤ (d : Int) := by omega
              replace HS := hid (HS.out.step hwz')
              have p0 := HS.out.cell 2 0 rfl rfl
              have p1 := HS.out.cell 2 1 rfl rfl
              clear D0 E0 E1 E2 E3 hwz'
              have H : Hid (addX xs fs f = xs ∧ addF xs fs f = insF fs f ∧ addI xs fs f = (k : Int)) := by unfold Hid addX addF addI; rw [hB.out, hat.out]; exact ⟨rfl, rfl, rfl⟩
              have hil : Hid ((insF fs f).length = m + 1) := by unfold Hid; rw [insF_len, hlf]
              obtain ⟨T, hT⟩ : ∃ T, T = fs.take k := ⟨_, rfl⟩
              have HT : Hid (fs.take k = T) := hT.symm
              have hTl : Hid (T.length = k) := by unfold Hid; rw [hT, List.length_take]; omega
              obtain ⟨T2, hT2⟩ : ∃ T2, T2 = T ++ [f] := ⟨_, rfl⟩
              have HT2 : Hid (T ++ [f] = T2) := hT2.symm
              have hT2l : Hid (T2.length = k + 1) := by unfold Hid; rw [hT2, List.length_append, hTl.out]; rfl
              have HT3 : Hid (T2 ++ fs.drop k = insF fs f) := by unfold Hid; rw [← hins.out, hT2, hT, List.append_assoc]; rfl
              have hkm1 : Hid (k + 1 + (m - k) = m + 1) := by unfold Hid; omega
              clear hT hT2
              go_wp2_with fail
              refine (l2Own_any _ (HN.out.grow HS.out.bl)).mono ?_
              rintro e w4 ⟨A1, c1, A2, c2, rfl, hl⟩
              have hW := (HS.out.join hl).blk_ w4.heap.size rfl 35 #[.slice A1 n c1, .slice A2 m c2]
              simp only [List.cons_append, List.nil_append] at hW
              have hbw : w.heap.size ≤ wz.heap.size := HS.out.bl.size
              clear hl p0 p1
              go_wp2_with fail
              generalize w4.alloc (.cells #[.slice A1 n c1, .slice A2 m c2] 35) = WW at *
              have D0 : ∀ w', Led w w' [tBlk (w.heap.size + 1) 64 #[.int .i64 f.a, .int .i64 f.b, .int .i64 f.len, .int .i64 f.risk], tBlk w.heap.size 35 #[.slice A n c, .slice (some ⟨b, o, none⟩) m d]] → w'.cell? ⟨w.heap.size, 1, none⟩ = some (.slice (some ⟨b, o, none⟩) m d) := fun _ h => h.cell 1 1 rfl rfl
              have E0 : ∀ w', Led w w' [tBlk (w.heap.size + 1) 64 #[.int .i64 f.a, .int .i64 f.b, .int .i64 f.len, .int .i64 f.risk], tBlk w.heap.size 35 #[.slice A n c, .slice (some ⟨b, o, none⟩) m d]] → w'.cell? ⟨w.heap.size + 1, 0, none⟩ = some (.int .i64 f.a) := fun _ h => h.cell 0 0 rfl rfl
              have E1 : ∀ w', Led w w' [tBlk (w.heap.size + 1) 64 #[.int .i64 f.a, .int .i64 f.b, .int .i64 f.len, .int .i64 f.risk], tBlk w.heap.size 35 #[.slice A n c, .slice (some ⟨b, o, none⟩) m d]] → w'.cell? ⟨w.heap.size + 1, 1, none⟩ = some (.int .i64 f.b) := fun _ h => h.cell 0 1 rfl rfl
              have E2 : ∀ w', Led w w' [tBlk (w.heap.size + 1) 64 #[.int .i64 f.a, .int .i64 f.b, .int .i64 f.len, .int .i64 f.risk], tBlk w.heap.size 35 #[.slice A n c, .slice (some ⟨b, o, none⟩) m d]] → w'.cell? ⟨w.heap.size + 1, 2, none⟩ = some (.int .i64 f.len) := fun _ h => h.cell 0 2 rfl rfl
              have E3 : ∀ w', Led w w' [tBlk (w.heap.size + 1) 64 #[.int .i64 f.a, .int .i64 f.b, .int .i64 f.len, .int .i64 f.risk], tBlk w.heap.size 35 #[.slice A n c, .slice (some ⟨b, o, none⟩) m d]] → w'.cell? ⟨w.heap.size + 1, 3, none⟩ = some (.int .i64 f.risk) := fun _ h => h.cell 0 3 rfl rfl
              refine wp_region_held_drew (S := fun w' => Led w w' [tBlk (w.heap.size + 1) 64 #[.int .i64 f.a, .int .i64 f.b, .int .i64 f.len, .int .i64 f.risk], tBlk w.heap.size 35 #[.slice A n c, .slice (some ⟨b, o, none⟩) m d]]) (by kernel_rfl) ((hW.step (Cls.drew _)).drop 4) (fun hHeld => ?_)
              refine wpAnyH_take (i := 1) (oi := _) (v := ?_) rfl (by kernel_rfl) (by kernel_rfl) (by kernel_rfl) (fun _ _ _ h => h) (Or.inl ⟨by rfl, ?_⟩) (by assumption) ?_
              rotate_left
              · intro w hSw; go_simp; with_reducible rfl
              simp only [Act.put, List.getElem_toArray, List.getElem_cons_zero, List.getElem_cons_succ, List.setIfInBounds_toArray, List.set_cons_zero, List.set_cons_succ]
              refine wpAnyH_take (i := 2) (oi := _) (v := ?_) rfl (by kernel_rfl) (by kernel_rfl) (by kernel_rfl) (fun _ _ _ h => h) (Or.inl ⟨by rfl, ?_⟩) (by assumption) ?_
              rotate_left
              · intro w hSw; go_simp; with_reducible rfl
              simp only [Act.put, List.getElem_toArray, List.getElem_cons_zero, List.getElem_cons_succ, List.setIfInBounds_toArray, List.set_cons_zero, List.set_cons_succ]
              refine wpAnyH_take (i := 3) (oi := _) (v := ?_) rfl (by kernel_rfl) (by kernel_rfl) (by kernel_rfl) (fun _ _ _ h => h) (Or.inl ⟨by rfl, ?_⟩) (by assumption) ?_
              rotate_left
              · intro w hSw; go_simp; with_reducible rfl
              simp only [Act.put, List.getElem_toArray, List.getElem_cons_zero, List.getElem_cons_succ, List.setIfInBounds_toArray, List.set_cons_zero, List.set_cons_succ]
              refine wpAnyH_take (i := 4) (oi := _) (v := ?_) rfl (by kernel_rfl) (by kernel_rfl) (by kernel_rfl) (fun _ _ _ h => h) (Or.inl ⟨by rfl, ?_⟩) (by assumption) ?_
              rotate_left
              · intro w hSw; go_simp; with_reducible rfl
              simp only [Act.put, List.getElem_toArray, List.getElem_cons_zero, List.getElem_cons_succ, List.setIfInBounds_toArray, List.set_cons_zero, List.set_cons_succ]
              refine wpAnyH_take (i := 6) (oi := _) (v := ?_) rfl (by kernel_rfl) (by kernel_rfl) (by kernel_rfl) (fun _ _ _ h => h) (Or.inl ⟨by rfl, ?_⟩) (by assumption) ?_
              rotate_left
              · intro w hSw; go_simp; with_reducible rfl
              simp only [Act.put, List.getElem_toArray, List.getElem_cons_zero, List.getElem_cons_succ, List.setIfInBounds_toArray, List.set_cons_zero, List.set_cons_succ]
              refine wpAnyH_take (i := 9) (oi := _) (v := ?_) rfl (by kernel_rfl) (by kernel_rfl) (by kernel_rfl) (fun _ _ _ h => h) (Or.inl ⟨by rfl, ?_⟩) (by assumption) ?_
              rotate_left
              · intro w hSw; go_simp; with_reducible rfl
              simp only [Act.put, List.getElem_toArray, List.getElem_cons_zero, List.getElem_cons_succ, List.setIfInBounds_toArray, List.set_cons_zero, List.set_cons_succ]
              refine wpAnyH_take (i := 10) (oi := _) (v := ?_) rfl (by kernel_rfl) (by kernel_rfl) (by kernel_rfl) (fun _ _ _ h => h) (Or.inl ⟨by rfl, ?_⟩) (by assumption) ?_
              rotate_left
              · intro w hSw; go_simp; with_reducible rfl
              simp only [Act.put, List.getElem_toArray, List.getElem_cons_zero, List.getElem_cons_succ, List.setIfInBounds_toArray, List.set_cons_zero, List.set_cons_succ]
              refine wpAnyH_take (i := 11) (oi := _) (v := ?_) rfl (by kernel_rfl) (by kernel_rfl) (by kernel_rfl) (fun _ _ _ h => h) (Or.inl ⟨by rfl, ?_⟩) (by assumption) ?_
              rotate_left
              · intro w hSw; go_simp; with_reducible rfl
              simp only [Act.put, List.getElem_toArray, List.getElem_cons_zero, List.getElem_cons_succ, List.setIfInBounds_toArray, List.set_cons_zero, List.set_cons_succ]
              refine wpAnyH_take (i := 12) (oi := _) (v := ?_) rfl (by kernel_rfl) (by kernel_rfl) (by kernel_rfl) (fun _ _ _ h => h) (Or.inl ⟨by rfl, ?_⟩) (by assumption) ?_
              rotate_left
              · intro w hSw; go_simp; with_reducible rfl
              simp only [Act.put, List.getElem_toArray, List.getElem_cons_zero, List.getElem_cons_succ, List.setIfInBounds_toArray, List.set_cons_zero, List.set_cons_succ]
              refine wpAnyH_ready (rs := [0, 7]) (by kernel_rfl) (by simp) ?_
              refine AllReadyH.cons rfl (fun K hK => ?_) ?_
              · skip
                have a1 := (hW.empty elFib 64 (WW.heap.size) rfl w.heap.size (by have := hW.bl.size; omega)).step (Cls.drew _)
                go_simp
                go_wp2_with fail
                refine hK.out _ _ (a1.drop 5) (fun hHeld => ?_)
                clear hK K
                try simp only [Act.put, List.getElem_toArray, List.getElem_cons_zero, List.getElem_cons_succ, List.setIfInBounds_toArray, List.set_cons_zero, List.set_cons_succ]
                refine wpAnyH_ready (rs := [5, 7]) (by kernel_rfl) (by simp) ?_
                refine AllReadyH.cons rfl (fun K hK => ?_) ?_
                · skip
                  refine step_append_led rfl _ _ 33 rfl a1 0 rfl Try.underlying33 hj hy0 hy1 (by rw [hy2]; decide) rfl rfl rfl ((HN.out.grow a1.bl).fibs.take hk) (by simp; omega) a1.bl.size ?_
                  intro B1 b1 v1 h1
                  simp only [List.length_nil, Nat.zero_add, List.nil_append] at h1 ⊢
                  rw [HT.out] at h1
                  refine hK.out _ _ (h1.drop 5) (fun hHeld => ?_)
                  clear hK K
                  try simp only [Act.put, List.getElem_toArray, List.getElem_cons_zero, List.getElem_cons_succ, List.setIfInBounds_toArray, List.set_cons_zero, List.set_cons_succ]
                  refine wpAnyH_ready (rs := [7]) (by kernel_rfl) (by simp) ?_
                  refine AllReadyH.cons rfl (fun K hK => ?_) AllReadyH.nil
                  have a2 := h1.blk_ v1.heap.size rfl 64 #[.int .i64 f.a, .int .i64 f.b, .int .i64 f.len, .int .i64 f.risk]
                  go_simp
                  go_wp2_with fail
                  refine hK.out _ _ (a2.drop 6) (fun hHeld => ?_)
                  clear hK K
                  try simp only [Act.put, List.getElem_toArray, List.getElem_cons_zero, List.getElem_cons_succ, List.setIfInBounds_toArray, List.set_cons_zero, List.set_cons_succ]
                  refine wpAnyH_ready (rs := [8]) (by kernel_rfl) (by simp) ?_
                  refine AllReadyH.cons rfl (fun K hK => ?_) AllReadyH.nil
                  refine step_append_led rfl _ _ 33 rfl a2 1 rfl Try.underlying33 hj hy0 hy1 (by rw [hy2]; decide) rfl rfl rfl (sees_fib (a2.get 0 rfl)) (by have := hTl.out; omega) a2.bl.size ?_
                  intro B2 b2 v2 h2
                  rw [HT2.out, hTl.out] at h2
                  rw [hTl.out]
                  refine hK.out _ _ (h2.drop 6) (fun hHeld => ?_)
                  clear hK K
                  try simp only [Act.put, List.getElem_toArray, List.getElem_cons_zero, List.getElem_cons_succ, List.setIfInBounds_toArray, List.set_cons_zero, List.set_cons_succ]
                  refine wpAnyH_ready (rs := [13]) (by kernel_rfl) (by simp) ?_
                  refine AllReadyH.cons rfl (fun K hK => ?_) AllReadyH.nil
                  refine step_append_led rfl _ _ 33 rfl h2 1 rfl Try.underlying33 hj hy0 hy1 (by rw [hy2]; decide) rfl rfl rfl ((HN.out.grow h2.bl).fibs.backE hk) (by have := hT2l.out; omega) h2.bl.size ?_
                  intro B3 b3 v3 h3
                  rw [HT3.out, hT2l.out, hkm1.out] at h3
                  rw [hT2l.out, hkm1.out]
                  refine hK.out _ _ (h3.drop 6) (fun hHeld => ?_)
                  clear hK K
                  try simp only [Act.put, List.getElem_toArray, List.getElem_cons_zero, List.getElem_cons_succ, List.setIfInBounds_toArray, List.set_cons_zero, List.set_cons_succ]
                  refine wpAnyH_take (i := 14) (oi := _) (v := ?_) rfl (by kernel_rfl) (by kernel_rfl) (by kernel_rfl) (fun _ _ _ h => h) (Or.inl ⟨by rfl, ?_⟩) (by assumption) ?_
                  rotate_left
                  · intro w hSw; go_simp; with_reducible rfl
                  simp only [Act.put, List.getElem_toArray, List.getElem_cons_zero, List.getElem_cons_succ, List.setIfInBounds_toArray, List.set_cons_zero, List.set_cons_succ]
                  have q1 := h3.cell 2 1 rfl rfl
                  have z1 := h3.frozen 2 1 rfl
                  have h4 := hid (h3.set 2 rfl 1 (.slice B3 (m + 1) b3))
                  refine wpAnyH_ready (rs := [15]) (by kernel_rfl) (by simp) ?_
                  refine AllReadyH.cons rfl (fun K hK => ?_) AllReadyH.nil
                  go_simp
                  go_wp2_with fail
                  refine hK.out _ _ (h4.out.drop 6) (fun hHeld => ?_)
                  clear hK K
                  try simp only [Act.put, List.getElem_toArray, List.getElem_cons_zero, List.getElem_cons_succ, List.setIfInBounds_toArray, List.set_cons_zero, List.set_cons_succ]
                  refine wpAnyH_done (by kernel_rfl) ?_ _
                  have r0 := h4.out.cell 2 0 rfl rfl
                  have r1 := h4.out.cell 2 1 rfl rfl
                  have y0 := h4.out.cell 5 0 rfl rfl
                  have t0 := h4.out.frozen 5 0 rfl
                  have y1 := h4.out.cell 5 1 rfl rfl
                  have t1 := h4.out.frozen 5 1 rfl
                  have HE := hid ((h4.out.set 5 rfl 0 (.slice A1 n c1)).set 5 rfl 1 (.slice B3 (m + 1) b3))
                  clear q1 z1 D0 E0 E1 E2 E3 h1 h2 h3 hHeld
                  go_wp2
                  exact bodyPost_ret (v := .tuple #[.agg #[.slice A1 n c1, .slice B3 (m + 1) b3], .int .i64 k, .bool true]) (by simp [results, Try.results45, go_sem, y0, y1]) rfl
                    ⟨A1, c1, B3, b3, by rw [hB.out, H.out.1, H.out.2.1, H.out.2.2, hlx.out, hil.out], by rw [H.out.1, H.out.2.1, hlx.out, hil.out]; exact HE.out.netOwn2 3 1 rfl rfl hlx.out.symm hil.out.symm hbw (Nat.le_refl _), HE.out.bl⟩
                · skip
                  refine AllReadyH.cons rfl (fun K hK => ?_) AllReadyH.nil
                  have a2 := ((hW.empty elFib 64 (WW.heap.size) rfl w.heap.size (by have := hW.bl.size; omega)).blk_ (WW.heap.size + 1) (by simp) 64 #[.int .i64 f.a, .int .i64 f.b, .int .i64 f.len, .int .i64 f.risk]).step (Cls.drew _)
                  go_simp
                  go_wp2_with fail
                  refine hK.out _ _ (a2.drop 6) (fun hHeld => ?_)
                  clear hK K
                  try simp only [Act.put, List.getElem_toArray, List.getElem_cons_zero, List.getElem_cons_succ, List.setIfInBounds_toArray, List.set_cons_zero, List.set_cons_succ]
                  refine wpAnyH_ready (rs := [5]) (by kernel_rfl) (by simp) ?_
                  refine AllReadyH.cons rfl (fun K hK => ?_) AllReadyH.nil
                  refine step_append_led rfl _ _ 33 rfl a2 1 rfl Try.underlying33 hj hy0 hy1 (by rw [hy2]; decide) rfl rfl rfl ((HN.out.grow a2.bl).fibs.take hk) (by simp; omega) a2.bl.size ?_
                  intro B1 b1 v1 h1
                  simp only [List.length_nil, Nat.zero_add, List.nil_append] at h1 ⊢
                  rw [HT.out] at h1
                  refine hK.out _ _ (h1.drop 6) (fun hHeld => ?_)
                  clear hK K
                  try simp only [Act.put, List.getElem_toArray, List.getElem_cons_zero, List.getElem_cons_succ, List.setIfInBounds_toArray, List.set_cons_zero, List.set_cons_succ]
                  refine wpAnyH_ready (rs := [8]) (by kernel_rfl) (by simp) ?_
                  refine AllReadyH.cons rfl (fun K hK => ?_) AllReadyH.nil
                  refine step_append_led rfl _ _ 33 rfl h1 1 rfl Try.underlying33 hj hy0 hy1 (by rw [hy2]; decide) rfl rfl rfl (sees_fib (h1.get 0 rfl)) (by have := hTl.out; omega) h1.bl.size ?_
                  intro B2 b2 v2 h2
                  rw [HT2.out, hTl.out] at h2
                  rw [hTl.out]
                  refine hK.out _ _ (h2.drop 6) (fun hHeld => ?_)
                  clear hK K
                  try simp only [Act.put, List.getElem_toArray, List.getElem_cons_zero, List.getElem_cons_succ, List.setIfInBounds_toArray, List.set_cons_zero, List.set_cons_succ]
                  refine wpAnyH_ready (rs := [13]) (by kernel_rfl) (by simp) ?_
                  refine AllReadyH.cons rfl (fun K hK => ?_) AllReadyH.nil
                  refine step_append_led rfl _ _ 33 rfl h2 1 rfl Try.underlying33 hj hy0 hy1 (by rw [hy2]; decide) rfl rfl rfl ((HN.out.grow h2.bl).fibs.backE hk) (by have := hT2l.out; omega) h2.bl.size ?_
                  intro B3 b3 v3 h3
                  rw [HT3.out, hT2l.out, hkm1.out] at h3
                  rw [hT2l.out, hkm1.out]
                  refine hK.out _ _ (h3.drop 6) (fun hHeld => ?_)
                  clear hK K
                  try simp only [Act.put, List.getElem_toArray, List.getElem_cons_zero, List.getElem_cons_succ, List.setIfInBounds_toArray, List.set_cons_zero, List.set_cons_succ]
                  refine wpAnyH_take (i := 14) (oi := _) (v := ?_) rfl (by kernel_rfl) (by kernel_rfl) (by kernel_rfl) (fun _ _ _ h => h) (Or.inl ⟨by rfl, ?_⟩) (by assumption) ?_
                  rotate_left
                  · intro w hSw; go_simp; with_reducible rfl
                  simp only [Act.put, List.getElem_toArray, List.getElem_cons_zero, List.getElem_cons_succ, List.setIfInBounds_toArray, List.set_cons_zero, List.set_cons_succ]
                  have q1 := h3.cell 2 1 rfl rfl
                  have z1 := h3.frozen 2 1 rfl
                  have h4 := hid (h3.set 2 rfl 1 (.slice B3 (m + 1) b3))
                  refine wpAnyH_ready (rs := [15]) (by kernel_rfl) (by simp) ?_
                  refine AllReadyH.cons rfl (fun K hK => ?_) AllReadyH.nil
                  go_simp
                  go_wp2_with fail
                  refine hK.out _ _ (h4.out.drop 6) (fun hHeld => ?_)
                  clear hK K
                  try simp only [Act.put, List.getElem_toArray, List.getElem_cons_zero, List.getElem_cons_succ, List.setIfInBounds_toArray, List.set_cons_zero, List.set_cons_succ]
                  refine wpAnyH_done (by kernel_rfl) ?_ _
                  have r0 := h4.out.cell 2 0 rfl rfl
                  have r1 := h4.out.cell 2 1 rfl rfl
                  have y0 := h4.out.cell 5 0 rfl rfl
                  have t0 := h4.out.frozen 5 0 rfl
                  have y1 := h4.out.cell 5 1 rfl rfl
                  have t1 := h4.out.frozen 5 1 rfl
                  have HE := hid ((h4.out.set 5 rfl 0 (.slice A1 n c1)).set 5 rfl 1 (.slice B3 (m + 1) b3))
                  clear q1 z1 D0 E0 E1 E2 E3 h1 h2 h3 hHeld
                  go_wp2
                  exact bodyPost_ret (v := .tuple #[.agg #[.slice A1 n c1, .slice B3 (m + 1) b3], .int .i64 k, .bool true]) (by simp [results, Try.results45, go_sem, y0, y1]) rfl
                    ⟨A1, c1, B3, b3, by rw [hB.out, H.out.1, H.out.2.1, H.out.2.2, hlx.out, hil.out], by rw [H.out.1, H.out.2.1, hlx.out, hil.out]; exact HE.out.netOwn2 3 1 rfl rfl hlx.out.symm hil.out.symm hbw (Nat.le_refl _), HE.out.bl⟩
              · skip
                refine AllReadyH.cons rfl (fun K hK => ?_) AllReadyH.nil
                have a1 := (hW.blk_ WW.heap.size rfl 64 #[.int .i64 f.a, .int .i64 f.b, .int .i64 f.len, .int .i64 f.risk]).step (Cls.drew _)
                go_simp
                go_wp2_with fail
                refine hK.out _ _ (a1.drop 5) (fun hHeld => ?_)
                clear hK K
                try simp only [Act.put, List.getElem_toArray, List.getElem_cons_zero, List.getElem_cons_succ, List.setIfInBounds_toArray, List.set_cons_zero, List.set_cons_succ]
                refine wpAnyH_ready (rs := [0]) (by kernel_rfl) (by simp) ?_
                refine AllReadyH.cons rfl (fun K hK => ?_) AllReadyH.nil
                have a2 := ((hW.blk_ WW.heap.size rfl 64 #[.int .i64 f.a, .int .i64 f.b, .int .i64 f.len, .int .i64 f.risk]).empty elFib 64 (WW.heap.size + 1) (by simp) w.heap.size (by have := hW.bl.size; omega)).step (Cls.drew _)
                go_simp
                go_wp2_with fail
                refine hK.out _ _ (a2.drop 6) (fun hHeld => ?_)
                clear hK K
                try simp only [Act.put, List.getElem_toArray, List.getElem_cons_zero, List.getElem_cons_succ, List.setIfInBounds_toArray, List.set_cons_zero, List.set_cons_succ]
                refine wpAnyH_ready (rs := [5]) (by kernel_rfl) (by simp) ?_
                refine AllReadyH.cons rfl (fun K hK => ?_) AllReadyH.nil
                refine step_append_led rfl _ _ 33 rfl a2 0 rfl Try.underlying33 hj hy0 hy1 (by rw [hy2]; decide) rfl rfl rfl ((HN.out.grow a2.bl).fibs.take hk) (by simp; omega) a2.bl.size ?_
                intro B1 b1 v1 h1
                simp only [List.length_nil, Nat.zero_add, List.nil_append] at h1 ⊢
                rw [HT.out] at h1
                refine hK.out _ _ (h1.drop 6) (fun hHeld => ?_)
                clear hK K
                try simp only [Act.put, List.getElem_toArray, List.getElem_cons_zero, List.getElem_cons_succ, List.setIfInBounds_toArray, List.set_cons_zero, List.set_cons_succ]
                refine wpAnyH_ready (rs := [8]) (by kernel_rfl) (by simp) ?_
                refine AllReadyH.cons rfl (fun K hK => ?_) AllReadyH.nil
                refine step_append_led rfl _ _ 33 rfl h1 0 rfl Try.underlying33 hj hy0 hy1 (by rw [hy2]; decide) rfl rfl rfl (sees_fib (h1.get 1 rfl)) (by have := hTl.out; omega) h1.bl.size ?_
                intro B2 b2 v2 h2
                rw [HT2.out, hTl.out] at h2
                rw [hTl.out]
                refine hK.out _ _ (h2.drop 6) (fun hHeld => ?_)
                clear hK K
                try simp only [Act.put, List.getElem_toArray, List.getElem_cons_zero, List.getElem_cons_succ, List.setIfInBounds_toArray, List.set_cons_zero, List.set_cons_succ]
                refine wpAnyH_ready (rs := [13]) (by kernel_rfl) (by simp) ?_
                refine AllReadyH.cons rfl (fun K hK => ?_) AllReadyH.nil
                refine step_append_led rfl _ _ 33 rfl h2 0 rfl Try.underlying33 hj hy0 hy1 (by rw [hy2]; decide) rfl rfl rfl ((HN.out.grow h2.bl).fibs.backE hk) (by have := hT2l.out; omega) h2.bl.size ?_
                intro B3 b3 v3 h3
                rw [HT3.out, hT2l.out, hkm1.out] at h3
                rw [hT2l.out, hkm1.out]
                refine hK.out _ _ (h3.drop 6) (fun hHeld => ?_)
                clear hK K
                try simp only [Act.put, List.getElem_toArray, List.getElem_cons_zero, List.getElem_cons_succ, List.setIfInBounds_toArray, List.set_cons_zero, List.set_cons_succ]
                refine wpAnyH_take (i := 14) (oi := _) (v := ?_) rfl (by kernel_rfl) (by kernel_rfl) (by kernel_rfl) (fun _ _ _ h => h) (Or.inl ⟨by rfl, ?_⟩) (by assumption) ?_
                rotate_left
                · intro w hSw; go_simp; with_reducible rfl
                simp only [Act.put, List.getElem_toArray, List.getElem_cons_zero, List.getElem_cons_succ, List.setIfInBounds_toArray, List.set_cons_zero, List.set_cons_succ]
                have q1 := h3.cell 2 1 rfl rfl
                have z1 := h3.frozen 2 1 rfl
                have h4 := hid (h3.set 2 rfl 1 (.slice B3 (m + 1) b3))
                refine wpAnyH_ready (rs := [15]) (by kernel_rfl) (by simp) ?_
                refine AllReadyH.cons rfl (fun K hK => ?_) AllReadyH.nil
                go_simp
                go_wp2_with fail
                refine hK.out _ _ (h4.out.drop 6) (fun hHeld => ?_)
                clear hK K
                try simp only [Act.put, List.getElem_toArray, List.getElem_cons_zero, List.getElem_cons_succ, List.setIfInBounds_toArray, List.set_cons_zero, List.set_cons_succ]
                refine wpAnyH_done (by kernel_rfl) ?_ _
                have r0 := h4.out.cell 2 0 rfl rfl
                have r1 := h4.out.cell 2 1 rfl rfl
                have y0 := h4.out.cell 5 0 rfl rfl
                have t0 := h4.out.frozen 5 0 rfl
                have y1 := h4.out.cell 5 1 rfl rfl
                have t1 := h4.out.frozen 5 1 rfl
                have HE := hid ((h4.out.set 5 rfl 0 (.slice A1 n c1)).set 5 rfl 1 (.slice B3 (m + 1) b3))
                clear q1 z1 D0 E0 E1 E2 E3 h1 h2 h3 hHeld
                go_wp2
                exact bodyPost_ret (v := .tuple #[.agg #[.slice A1 n c1, .slice B3 (m + 1) b3], .int .i64 k, .bool true]) (by simp [results, Try.results45, go_sem, y0, y1]) rfl
                  ⟨A1, c1, B3, b3, by rw [hB.out, H.out.1, H.out.2.1, H.out.2.2, hlx.out, hil.out], by rw [H.out.1, H.out.2.1, hlx.out, hil.out]; exact HE.out.netOwn2 3 0 rfl rfl hlx.out.symm hil.out.symm hbw (Nat.le_refl _), HE.out.bl⟩
          · have hkm : k = m := by omega
            have iz : ¬ ((k : Int) < (m : Int)) := by omega
            have hat : Hid (atF fs f = k) := atF_is (by rw [hlf]; exact hk) hall (.inl (by rw [hlf]; exact hkm))
            have hins : Hid (fs.take k ++ f :: fs.drop k = insF fs f) := by unfold Hid insF; rw [hat.out]
            have hkd : (k : Int) ≤ (d : Int) := by omega
            have HKM := hid hkm
            clear hall hkm
            go_wp2_with fail
            refine region_cls (by kernel_rfl) (by kernel_rfl) ?_
            repeat (first
              | ((with_reducible refine quiet_pos ?_ (fun K hK => ?_))
                 · rfl
                 apply Exists.intro
                 refine ⟨fun w' hw' => ?_, ?_⟩
                 · go_simp
                   with_reducible rfl
                 simp only [Act.put, List.setIfInBounds_toArray, List.set_cons_zero, List.set_cons_succ]
                 refine hK _ ?_; clear hK K)
              | ((with_reducible refine quiet_neg ?_ (fun K hK => ?_))
                 · rfl
                 simp only [Act.put, List.setIfInBounds_toArray, List.set_cons_zero, List.set_cons_succ]
                 refine hK _ ?_; clear hK K))
            with_reducible refine wpQuiet_nil ?_
            intro wz hwz'
            by_cases hdk : d = k
            · have hdk2 := hdk.symm; clear hdk; subst hdk2
              replace HS := hid (HS.out.step hwz')
              have p0 := HS.out.cell 2 0 rfl rfl
              have p1 := HS.out.cell 2 1 rfl rfl
              clear D0 E0 E1 E2 E3 hwz'
              have H : Hid (addX xs fs f = xs ∧ addF xs fs f = insF fs f ∧ addI xs fs f = (k : Int)) := by unfold Hid addX addF addI; rw [hB.out, hat.out]; exact ⟨rfl, rfl, rfl⟩
              have hil : Hid ((insF fs f).length = m + 1) := by unfold Hid; rw [insF_len, hlf]
              obtain ⟨T, hT⟩ : ∃ T, T = fs.take k := ⟨_, rfl⟩
              have HT : Hid (fs.take k = T) := hT.symm
              have hTl : Hid (T.length = k) := by unfold Hid; rw [hT, List.length_take]; omega
              obtain ⟨T2, hT2⟩ : ∃ T2, T2 = T ++ [f] := ⟨_, rfl⟩
              have HT2 : Hid (T ++ [f] = T2) := hT2.symm
              have hT2l : Hid (T2.length = k + 1) := by unfold Hid; rw [hT2, List.length_append, hTl.out]; rfl
              have HT3 : Hid (T2 ++ [] = insF fs f) := by unfold Hid; rw [← hins.out, hT2, hT, List.append_nil, List.drop_of_length_le (by have := HKM.out; omega)]
              have hkm1 : Hid (k + 1 + 0 = m + 1) := by unfold Hid; have := HKM.out; omega
              have hmk : m - k = 0 := by have := HKM.out; omega
              clear hT hT2
              go_wp2_with fail
              refine (l2Own_any _ (HN.out.grow HS.out.bl)).mono ?_
              rintro e w4 ⟨A1, c1, A2, c2, rfl, hl⟩
              have hW := (HS.out.join hl).blk_ w4.heap.size rfl 35 #[.slice A1 n c1, .slice A2 m c2]
              simp only [List.cons_append, List.nil_append] at hW
              have hbw : w.heap.size ≤ wz.heap.size := HS.out.bl.size
              clear hl p0 p1
              go_wp2_with fail
              generalize w4.alloc (.cells #[.slice A1 n c1, .slice A2 m c2] 35) = WW at *
              have D0 : ∀ w', Led w w' [tBlk (w.heap.size + 1) 64 #[.int .i64 f.a, .int .i64 f.b, .int .i64 f.len, .int .i64 f.risk], tBlk w.heap.size 35 #[.slice A n c, .slice A' m k]] → w'.cell? ⟨w.heap.size, 1, none⟩ = some (.slice A' m k) := fun _ h => h.cell 1 1 rfl rfl
              have E0 : ∀ w', Led w w' [tBlk (w.heap.size + 1) 64 #[.int .i64 f.a, .int .i64 f.b, .int .i64 f.len, .int .i64 f.risk], tBlk w.heap.size 35 #[.slice A n c, .slice A' m k]] → w'.cell? ⟨w.heap.size + 1, 0, none⟩ = some (.int .i64 f.a) := fun _ h => h.cell 0 0 rfl rfl
              have E1 : ∀ w', Led w w' [tBlk (w.heap.size + 1) 64 #[.int .i64 f.a, .int .i64 f.b, .int .i64 f.len, .int .i64 f.risk], tBlk w.heap.size 35 #[.slice A n c, .slice A' m k]] → w'.cell? ⟨w.heap.size + 1, 1, none⟩ = some (.int .i64 f.b) := fun _ h => h.cell 0 1 rfl rfl
              have E2 : ∀ w', Led w w' [tBlk (w.heap.size + 1) 64 #[.int .i64 f.a, .int .i64 f.b, .int .i64 f.len, .int .i64 f.risk], tBlk w.heap.size 35 #[.slice A n c, .slice A' m k]] → w'.cell? ⟨w.heap.size + 1, 2, none⟩ = some (.int .i64 f.len) := fun _ h => h.cell 0 2 rfl rfl
              have E3 : ∀ w', Led w w' [tBlk (w.heap.size + 1) 64 #[.int .i64 f.a, .int .i64 f.b, .int .i64 f.len, .int .i64 f.risk], tBlk w.heap.size 35 #[.slice A n c, .slice A' m k]] → w'.cell? ⟨w.heap.size + 1, 3, none⟩ = some (.int .i64 f.risk) := fun _ h => h.cell 0 3 rfl rfl
              refine wp_region_held_drew (S := fun w' => Led w w' [tBlk (w.heap.size + 1) 64 #[.int .i64 f.a, .int .i64 f.b, .int .i64 f.len, .int .i64 f.risk], tBlk w.heap.size 35 #[.slice A n c, .slice A' m k]]) (by kernel_rfl) ((hW.step (Cls.drew _)).drop 4) (fun hHeld => ?_)
              refine wpAnyH_take (i := 1) (oi := _) (v := ?_) rfl (by kernel_rfl) (by kernel_rfl) (by kernel_rfl) (fun _ _ _ h => h) (Or.inl ⟨by rfl, ?_⟩) (by assumption) ?_
              rotate_left
              · intro w hSw; go_simp; with_reducible rfl
              simp only [Act.put, List.getElem_toArray, List.getElem_cons_zero, List.getElem_cons_succ, List.setIfInBounds_toArray, List.set_cons_zero, List.set_cons_succ]
              refine wpAnyH_take (i := 2) (oi := _) (v := ?_) rfl (by kernel_rfl) (by kernel_rfl) (by kernel_rfl) (fun _ _ _ h => h) (Or.inl ⟨by rfl, ?_⟩) (by assumption) ?_
              rotate_left
              · intro w hSw; go_simp; with_reducible rfl
              simp only [Act.put, List.getElem_toArray, List.getElem_cons_zero, List.getElem_cons_succ, List.setIfInBounds_toArray, List.set_cons_zero, List.set_cons_succ]
              refine wpAnyH_take (i := 3) (oi := _) (v := ?_) rfl (by kernel_rfl) (by kernel_rfl) (by kernel_rfl) (fun _ _ _ h => h) (Or.inl ⟨by rfl, ?_⟩) (by assumption) ?_
              rotate_left
              · intro w hSw; go_simp; with_reducible rfl
              simp only [Act.put, List.getElem_toArray, List.getElem_cons_zero, List.getElem_cons_succ, List.setIfInBounds_toArray, List.set_cons_zero, List.set_cons_succ]
              refine wpAnyH_take (i := 4) (oi := _) (v := ?_) rfl (by kernel_rfl) (by kernel_rfl) (by kernel_rfl) (fun _ _ _ h => h) (Or.inl ⟨by rfl, ?_⟩) (by assumption) ?_
              rotate_left
              · intro w hSw; go_simp; with_reducible rfl
              simp only [Act.put, List.getElem_toArray, List.getElem_cons_zero, List.getElem_cons_succ, List.setIfInBounds_toArray, List.set_cons_zero, List.set_cons_succ]
              refine wpAnyH_take (i := 6) (oi := _) (v := ?_) rfl (by kernel_rfl) (by kernel_rfl) (by kernel_rfl) (fun _ _ _ h => h) (Or.inl ⟨by rfl, ?_⟩) (by assumption) ?_
              rotate_left
              · intro w hSw; go_simp; with_reducible rfl
              simp only [Act.put, List.getElem_toArray, List.getElem_cons_zero, List.getElem_cons_succ, List.setIfInBounds_toArray, List.set_cons_zero, List.set_cons_succ]
              refine wpAnyH_take (i := 9) (oi := _) (v := ?_) rfl (by kernel_rfl) (by kernel_rfl) (by kernel_rfl) (fun _ _ _ h => h) (Or.inl ⟨by rfl, ?_⟩) (by assumption) ?_
              rotate_left
              · intro w hSw; go_simp; with_reducible rfl
              simp only [Act.put, List.getElem_toArray, List.getElem_cons_zero, List.getElem_cons_succ, List.setIfInBounds_toArray, List.set_cons_zero, List.set_cons_succ]
              refine wpAnyH_take (i := 10) (oi := _) (v := ?_) rfl (by kernel_rfl) (by kernel_rfl) (by kernel_rfl) (fun _ _ _ h => h) (Or.inl ⟨by rfl, ?_⟩) (by assumption) ?_
              rotate_left
              · intro w hSw; go_simp; with_reducible rfl
              simp only [Act.put, List.getElem_toArray, List.getElem_cons_zero, List.getElem_cons_succ, List.setIfInBounds_toArray, List.set_cons_zero, List.set_cons_succ]
              refine wpAnyH_take (i := 11) (oi := _) (v := ?_) rfl (by kernel_rfl) (by kernel_rfl) (by kernel_rfl) (fun _ _ _ h => h) (Or.inl ⟨by rfl, ?_⟩) (by assumption) ?_
              rotate_left
              · intro w hSw; go_simp; with_reducible rfl
              simp only [Act.put, List.getElem_toArray, List.getElem_cons_zero, List.getElem_cons_succ, List.setIfInBounds_toArray, List.set_cons_zero, List.set_cons_succ]
              refine wpAnyH_take (i := 12) (oi := _) (v := ?_) rfl (by kernel_rfl) (by kernel_rfl) (by kernel_rfl) (fun _ _ _ h => h) (Or.inl ⟨by rfl, ?_⟩) (by assumption) ?_
              rotate_left
              · intro w hSw; go_simp; with_reducible rfl
              simp only [Act.put, List.getElem_toArray, List.getElem_cons_zero, List.getElem_cons_succ, List.setIfInBounds_toArray, List.set_cons_zero, List.set_cons_succ]
              refine wpAnyH_ready (rs := [0, 7]) (by kernel_rfl) (by simp) ?_
              refine AllReadyH.cons rfl (fun K hK => ?_) ?_
              · skip
                have a1 := (hW.empty elFib 64 (WW.heap.size) rfl w.heap.size (by have := hW.bl.size; omega)).step (Cls.drew _)
                go_simp
                go_wp2_with fail
                refine hK.out _ _ (a1.drop 5) (fun hHeld => ?_)
                clear hK K
                try simp only [Act.put, List.getElem_toArray, List.getElem_cons_zero, List.getElem_cons_succ, List.setIfInBounds_toArray, List.set_cons_zero, List.set_cons_succ]
                refine wpAnyH_ready (rs := [5, 7]) (by kernel_rfl) (by simp) ?_
                refine AllReadyH.cons rfl (fun K hK => ?_) ?_
                · skip
                  refine step_append_led rfl _ _ 33 rfl a1 0 rfl Try.underlying33 hj hy0 hy1 (by rw [hy2]; decide) rfl rfl rfl ((HN.out.grow a1.bl).fibs.take hk) (by simp; omega) a1.bl.size ?_
                  intro B1 b1 v1 h1
                  simp only [List.length_nil, Nat.zero_add, List.nil_append] at h1 ⊢
                  rw [HT.out] at h1
                  refine hK.out _ _ (h1.drop 5) (fun hHeld => ?_)
                  clear hK K
                  try simp only [Act.put, List.getElem_toArray, List.getElem_cons_zero, List.getElem_cons_succ, List.setIfInBounds_toArray, List.set_cons_zero, List.set_cons_succ]
                  refine wpAnyH_ready (rs := [7]) (by kernel_rfl) (by simp) ?_
                  refine AllReadyH.cons rfl (fun K hK => ?_) AllReadyH.nil
                  have a2 := h1.blk_ v1.heap.size rfl 64 #[.int .i64 f.a, .int .i64 f.b, .int .i64 f.len, .int .i64 f.risk]
                  go_simp
                  go_wp2_with fail
                  refine hK.out _ _ (a2.drop 6) (fun hHeld => ?_)
                  clear hK K
                  try simp only [Act.put, List.getElem_toArray, List.getElem_cons_zero, List.getElem_cons_succ, List.setIfInBounds_toArray, List.set_cons_zero, List.set_cons_succ]
                  refine wpAnyH_ready (rs := [8]) (by kernel_rfl) (by simp) ?_
                  refine AllReadyH.cons rfl (fun K hK => ?_) AllReadyH.nil
                  refine step_append_led rfl _ _ 33 rfl a2 1 rfl Try.underlying33 hj hy0 hy1 (by rw [hy2]; decide) rfl rfl rfl (sees_fib (a2.get 0 rfl)) (by have := hTl.out; omega) a2.bl.size ?_
                  intro B2 b2 v2 h2
                  rw [HT2.out, hTl.out] at h2
                  rw [hTl.out]
                  refine hK.out _ _ (h2.drop 6) (fun hHeld => ?_)
                  clear hK K
                  try simp only [Act.put, List.getElem_toArray, List.getElem_cons_zero, List.getElem_cons_succ, List.setIfInBounds_toArray, List.set_cons_zero, List.set_cons_succ]
                  refine wpAnyH_ready (rs := [13]) (by kernel_rfl) (by simp) ?_
                  refine AllReadyH.cons rfl (fun K hK => ?_) AllReadyH.nil
                  refine step_append_led rfl _ _ 33 rfl h2 1 rfl Try.underlying33 hj hy0 hy1 (by rw [hy2]; decide) rfl rfl rfl (Sees.nil elFib _ 0 _) (by have := hT2l.out; omega) h2.bl.size ?_
                  intro B3 b3 v3 h3
                  rw [HT3.out, hT2l.out, hkm1.out] at h3
                  rw [hT2l.out, hkm1.out]
                  refine hK.out _ _ (h3.drop 6) (fun hHeld => ?_)
                  clear hK K
                  try simp only [Act.put, List.getElem_toArray, List.getElem_cons_zero, List.getElem_cons_succ, List.setIfInBounds_toArray, List.set_cons_zero, List.set_cons_succ]
                  refine wpAnyH_take (i := 14) (oi := _) (v := ?_) rfl (by kernel_rfl) (by kernel_rfl) (by kernel_rfl) (fun _ _ _ h => h) (Or.inl ⟨by rfl, ?_⟩) (by assumption) ?_
                  rotate_left
                  · intro w hSw; go_simp; with_reducible rfl
                  simp only [Act.put, List.getElem_toArray, List.getElem_cons_zero, List.getElem_cons_succ, List.setIfInBounds_toArray, List.set_cons_zero, List.set_cons_succ]
                  have q1 := h3.cell 2 1 rfl rfl
                  have z1 := h3.frozen 2 1 rfl
                  have h4 := hid (h3.set 2 rfl 1 (.slice B3 (m + 1) b3))
                  refine wpAnyH_ready (rs := [15]) (by kernel_rfl) (by simp) ?_
                  refine AllReadyH.cons rfl (fun K hK => ?_) AllReadyH.nil
                  go_simp
                  go_wp2_with fail
                  refine hK.out _ _ (h4.out.drop 6) (fun hHeld => ?_)
                  clear hK K
                  try simp only [Act.put, List.getElem_toArray, List.getElem_cons_zero, List.getElem_cons_succ, List.setIfInBounds_toArray, List.set_cons_zero, List.set_cons_succ]
                  refine wpAnyH_done (by kernel_rfl) ?_ _
                  have r0 := h4.out.cell 2 0 rfl rfl
                  have r1 := h4.out.cell 2 1 rfl rfl
                  have y0 := h4.out.cell 5 0 rfl rfl
                  have t0 := h4.out.frozen 5 0 rfl
                  have y1 := h4.out.cell 5 1 rfl rfl
                  have t1 := h4.out.frozen 5 1 rfl
                  have HE := hid ((h4.out.set 5 rfl 0 (.slice A1 n c1)).set 5 rfl 1 (.slice B3 (m + 1) b3))
                  clear q1 z1 D0 E0 E1 E2 E3 h1 h2 h3 hHeld
                  go_wp2
                  exact bodyPost_ret (v := .tuple #[.agg #[.slice A1 n c1, .slice B3 (m + 1) b3], .int .i64 k, .bool true]) (by simp [results, Try.results45, go_sem, y0, y1]) rfl
                    ⟨A1, c1, B3, b3, by rw [hB.out, H.out.1, H.out.2.1, H.out.2.2, hlx.out, hil.out], by rw [H.out.1, H.out.2.1, hlx.out, hil.out]; exact HE.out.netOwn2 3 1 rfl rfl hlx.out.symm hil.out.symm hbw (Nat.le_refl _), HE.out.bl⟩
                · skip
                  refine AllReadyH.cons rfl (fun K hK => ?_) AllReadyH.nil
                  have a2 := ((hW.empty elFib 64 (WW.heap.size) rfl w.heap.size (by have := hW.bl.size; omega)).blk_ (WW.heap.size + 1) (by simp) 64 #[.int .i64 f.a, .int .i64 f.b, .int .i64 f.len, .int .i64 f.risk]).step (Cls.drew _)
                  go_simp
                  go_wp2_with fail
                  refine hK.out _ _ (a2.drop 6) (fun hHeld => ?_)
                  clear hK K
                  try simp only [Act.put, List.getElem_toArray, List.getElem_cons_zero, List.getElem_cons_succ, List.setIfInBounds_toArray, List.set_cons_zero, List.set_cons_succ]
                  refine wpAnyH_ready (rs := [5]) (by kernel_rfl) (by simp) ?_
                  refine AllReadyH.cons rfl (fun K hK => ?_) AllReadyH.nil
                  refine step_append_led rfl _ _ 33 rfl a2 1 rfl Try.underlying33 hj hy0 hy1 (by rw [hy2]; decide) rfl rfl rfl ((HN.out.grow a2.bl).fibs.take hk) (by simp; omega) a2.bl.size ?_
                  intro B1 b1 v1 h1
                  simp only [List.length_nil, Nat.zero_add, List.nil_append] at h1 ⊢
                  rw [HT.out] at h1
                  refine hK.out _ _ (h1.drop 6) (fun hHeld => ?_)
                  clear hK K
                  try simp only [Act.put, List.getElem_toArray, List.getElem_cons_zero, List.getElem_cons_succ, List.setIfInBounds_toArray, List.set_cons_zero, List.set_cons_succ]
                  refine wpAnyH_ready (rs := [8]) (by kernel_rfl) (by simp) ?_
                  refine AllReadyH.cons rfl (fun K hK => ?_) AllReadyH.nil
                  refine step_append_led rfl _ _ 33 rfl h1 1 rfl Try.underlying33 hj hy0 hy1 (by rw [hy2]; decide) rfl rfl rfl (sees_fib (h1.get 0 rfl)) (by have := hTl.out; omega) h1.bl.size ?_
                  intro B2 b2 v2 h2
                  rw [HT2.out, hTl.out] at h2
                  rw [hTl.out]
                  refine hK.out _ _ (h2.drop 6) (fun hHeld => ?_)
                  clear hK K
                  try simp only [Act.put, List.getElem_toArray, List.getElem_cons_zero, List.getElem_cons_succ, List.setIfInBounds_toArray, List.set_cons_zero, List.set_cons_succ]
                  refine wpAnyH_ready (rs := [13]) (by kernel_rfl) (by simp) ?_
                  refine AllReadyH.cons rfl (fun K hK => ?_) AllReadyH.nil
                  refine step_append_led rfl _ _ 33 rfl h2 1 rfl Try.underlying33 hj hy0 hy1 (by rw [hy2]; decide) rfl rfl rfl (Sees.nil elFib _ 0 _) (by have := hT2l.out; omega) h2.bl.size ?_
                  intro B3 b3 v3 h3
                  rw [HT3.out, hT2l.out, hkm1.out] at h3
                  rw [hT2l.out, hkm1.out]
                  refine hK.out _ _ (h3.drop 6) (fun hHeld => ?_)
                  clear hK K
                  try simp only [Act.put, List.getElem_toArray, List.getElem_cons_zero, List.getElem_cons_succ, List.setIfInBounds_toArray, List.set_cons_zero, List.set_cons_succ]
                  refine wpAnyH_take (i := 14) (oi := _) (v := ?_) rfl (by kernel_rfl) (by kernel_rfl) (by kernel_rfl) (fun _ _ _ h => h) (Or.inl ⟨by rfl, ?_⟩) (by assumption) ?_
                  rotate_left
                  · intro w hSw; go_simp; with_reducible rfl
                  simp only [Act.put, List.getElem_toArray, List.getElem_cons_zero, List.getElem_cons_succ, List.setIfInBounds_toArray, List.set_cons_zero, List.set_cons_succ]
                  have q1 := h3.cell 2 1 rfl rfl
                  have z1 := h3.frozen 2 1 rfl
                  have h4 := hid (h3.set 2 rfl 1 (.slice B3 (m + 1) b3))
                  refine wpAnyH_ready (rs := [15]) (by kernel_rfl) (by simp) ?_
                  refine AllReadyH.cons rfl (fun K hK => ?_) AllReadyH.nil
                  go_simp
                  go_wp2_with fail
                  refine hK.out _ _ (h4.out.drop 6) (fun hHeld => ?_)
                  clear hK K
                  try simp only [Act.put, List.getElem_toArray, List.getElem_cons_zero, List.getElem_cons_succ, List.setIfInBounds_toArray, List.set_cons_zero, List.set_cons_succ]
                  refine wpAnyH_done (by kernel_rfl) ?_ _
                  have r0 := h4.out.cell 2 0 rfl rfl
                  have r1 := h4.out.cell 2 1 rfl rfl
                  have y0 := h4.out.cell 5 0 rfl rfl
                  have t0 := h4.out.frozen 5 0 rfl
                  have y1 := h4.out.cell 5 1 rfl rfl
                  have t1 := h4.out.frozen 5 1 rfl
                  have HE := hid ((h4.out.set 5 rfl 0 (.slice A1 n c1)).set 5 rfl 1 (.slice B3 (m + 1) b3))
                  clear q1 z1 D0 E0 E1 E2 E3 h1 h2 h3 hHeld
                  go_wp2
                  exact bodyPost_ret (v := .tuple #[.agg #[.slice A1 n c1, .slice B3 (m + 1) b3], .int .i64 k, .bool true]) (by simp [results, Try.results45, go_sem, y0, y1]) rfl
                    ⟨A1, c1, B3, b3, by rw [hB.out, H.out.1, H.out.2.1, H.out.2.2, hlx.out, hil.out], by rw [H.out.1, H.out.2.1, hlx.out, hil.out]; exact HE.out.netOwn2 3 1 rfl rfl hlx.out.symm hil.out.symm hbw (Nat.le_refl _), HE.out.bl⟩
              · skip
                refine AllReadyH.cons rfl (fun K hK => ?_) AllReadyH.nil
                have a1 := (hW.blk_ WW.heap.size rfl 64 #[.int .i64 f.a, .int .i64 f.b, .int .i64 f.len, .int .i64 f.risk]).step (Cls.drew _)
                go_simp
                go_wp2_with fail
                refine hK.out _ _ (a1.drop 5) (fun hHeld => ?_)
                clear hK K
                try simp only [Act.put, List.getElem_toArray, List.getElem_cons_zero, List.getElem_cons_succ, List.setIfInBounds_toArray, List.set_cons_zero, List.set_cons_succ]
                refine wpAnyH_ready (rs := [0]) (by kernel_rfl) (by simp) ?_
                refine AllReadyH.cons rfl (fun K hK => ?_) AllReadyH.nil
                have a2 := ((hW.blk_ WW.heap.size rfl 64 #[.int .i64 f.a, .int .i64 f.b, .int .i64 f.len, .int .i64 f.risk]).empty elFib 64 (WW.heap.size + 1) (by simp) w.heap.size (by have := hW.bl.size; omega)).step (Cls.drew _)
                go_simp
                go_wp2_with fail
                refine hK.out _ _ (a2.drop 6) (fun hHeld => ?_)
                clear hK K
                try simp only [Act.put, List.getElem_toArray, List.getElem_cons_zero, List.getElem_cons_succ, List.setIfInBounds_toArray, List.set_cons_zero, List.set_cons_succ]
                refine wpAnyH_ready (rs := [5]) (by kernel_rfl) (by simp) ?_
                refine AllReadyH.cons rfl (fun K hK => ?_) AllReadyH.nil
                refine step_append_led rfl _ _ 33 rfl a2 0 rfl Try.underlying33 hj hy0 hy1 (by rw [hy2]; decide) rfl rfl rfl ((HN.out.grow a2.bl).fibs.take hk) (by simp; omega) a2.bl.size ?_
                intro B1 b1 v1 h1
                simp only [List.length_nil, Nat.zero_add, List.nil_append] at h1 ⊢
                rw [HT.out] at h1
                refine hK.out _ _ (h1.drop 6) (fun hHeld => ?_)
                clear hK K
                try simp only [Act.put, List.getElem_toArray, List.getElem_cons_zero, List.getElem_cons_succ, List.setIfInBounds_toArray, List.set_cons_zero, List.set_cons_succ]
                refine wpAnyH_ready (rs := [8]) (by kernel_rfl) (by simp) ?_
                refine AllReadyH.cons rfl (fun K hK => ?_) AllReadyH.nil
                refine step_append_led rfl _ _ 33 rfl h1 0 rfl Try.underlying33 hj hy0 hy1 (by rw [hy2]; decide) rfl rfl rfl (sees_fib (h1.get 1 rfl)) (by have := hTl.out; omega) h1.bl.size ?_
                intro B2 b2 v2 h2
                rw [HT2.out, hTl.out] at h2
                rw [hTl.out]
                refine hK.out _ _ (h2.drop 6) (fun hHeld => ?_)
                clear hK K
                try simp only [Act.put, List.getElem_toArray, List.getElem_cons_zero, List.getElem_cons_succ, List.setIfInBounds_toArray, List.set_cons_zero, List.set_cons_succ]
                refine wpAnyH_ready (rs := [13]) (by kernel_rfl) (by simp) ?_
                refine AllReadyH.cons rfl (fun K hK => ?_) AllReadyH.nil
                refine step_append_led rfl _ _ 33 rfl h2 0 rfl Try.underlying33 hj hy0 hy1 (by rw [hy2]; decide) rfl rfl rfl (Sees.nil elFib _ 0 _) (by have := hT2l.out; omega) h2.bl.size ?_
                intro B3 b3 v3 h3
                rw [HT3.out, hT2l.out, hkm1.out] at h3
                rw [hT2l.out, hkm1.out]
                refine hK.out _ _ (h3.drop 6) (fun hHeld => ?_)
                clear hK K
                try simp only [Act.put, List.getElem_toArray, List.getElem_cons_zero, List.getElem_cons_succ, List.setIfInBounds_toArray, List.set_cons_zero, List.set_cons_succ]
                refine wpAnyH_take (i := 14) (oi := _) (v := ?_) rfl (by kernel_rfl) (by kernel_rfl) (by kernel_rfl) (fun _ _ _ h => h) (Or.inl ⟨by rfl, ?_⟩) (by assumption) ?_
                rotate_left
                · intro w hSw; go_simp; with_reducible rfl
                simp only [Act.put, List.getElem_toArray, List.getElem_cons_zero, List.getElem_cons_succ, List.setIfInBounds_toArray, List.set_cons_zero, List.set_cons_succ]
                have q1 := h3.cell 2 1 rfl rfl
                have z1 := h3.frozen 2 1 rfl
                have h4 := hid (h3.set 2 rfl 1 (.slice B3 (m + 1) b3))
                refine wpAnyH_ready (rs := [15]) (by kernel_rfl) (by simp) ?_
                refine AllReadyH.cons rfl (fun K hK => ?_) AllReadyH.nil
                go_simp
                go_wp2_with fail
                refine hK.out _ _ (h4.out.drop 6) (fun hHeld => ?_)
                clear hK K
                try simp only [Act.put, List.getElem_toArray, List.getElem_cons_zero, List.getElem_cons_succ, List.setIfInBounds_toArray, List.set_cons_zero, List.set_cons_succ]
                refine wpAnyH_done (by kernel_rfl) ?_ _
                have r0 := h4.out.cell 2 0 rfl rfl
                have r1 := h4.out.cell 2 1 rfl rfl
                have y0 := h4.out.cell 5 0 rfl rfl
                have t0 := h4.out.frozen 5 0 rfl
                have y1 := h4.out.cell 5 1 rfl rfl
                have t1 := h4.out.frozen 5 1 rfl
                have HE := hid ((h4.out.set 5 rfl 0 (.slice A1 n c1)).set 5 rfl 1 (.slice B3 (m + 1) b3))
                clear q1 z1 D0 E0 E1 E2 E3 h1 h2 h3 hHeld
                go_wp2
                exact bodyPost_ret (v := .tuple #[.agg #[.slice A1 n c1, .slice B3 (m + 1) b3], .int .i64 k, .bool true]) (by simp [results, Try.results45, go_sem, y0, y1]) rfl
                  ⟨A1, c1, B3, b3, by rw [hB.out, H.out.1, H.out.2.1, H.out.2.2, hlx.out, hil.out], by rw [H.out.1, H.out.2.1, hlx.out, hil.out]; exact HE.out.netOwn2 3 0 rfl rfl hlx.out.symm hil.out.symm hbw (Nat.le_refl _), HE.out.bl⟩
            · skip
              replace HS := hid (HS.out.step hwz')
              have p0 := HS.out.cell 2 0 rfl rfl
              have p1 := HS.out.cell 2 1 rfl rfl
              clear D0 E0 E1 E2 E3 hwz'
              have H : Hid (addX xs fs f = xs ∧ addF xs fs f = insF fs f ∧ addI xs fs f = (k : Int)) := by unfold Hid addX addF addI; rw [hB.out, hat.out]; exact ⟨rfl, rfl, rfl⟩
              have hil : Hid ((insF fs f).length = m + 1) := by unfold Hid; rw [insF_len, hlf]
              obtain ⟨T, hT⟩ : ∃ T, T = fs.take k := ⟨_, rfl⟩
              have HT : Hid (fs.take k = T) := hT.symm
              have hTl : Hid (T.length = k) := by unfold Hid; rw [hT, List.length_take]; omega
              obtain ⟨T2, hT2⟩ : ∃ T2, T2 = T ++ [f] := ⟨_, rfl⟩
              have HT2 : Hid (T ++ [f] = T2) := hT2.symm
              have hT2l : Hid (T2.length = k + 1) := by unfold Hid; rw [hT2, List.length_append, hTl.out]; rfl
              have HT3 : Hid (T2 ++ [] = insF fs f) := by unfold Hid; rw [← hins.out, hT2, hT, List.append_nil, List.drop_of_length_le (by have := HKM.out; omega)]
              have hkm1 : Hid (k + 1 + 0 = m + 1) := by unfold Hid; have := HKM.out; omega
              have hmk : m - k = 0 := by have := HKM.out; omega
              clear hT hT2
              go_wp2_with fail
              refine (l2Own_any _ (HN.out.grow HS.out.bl)).mono ?_
              rintro e w4 ⟨A1, c1, A2, c2, rfl, hl⟩
              have hW := (HS.out.join hl).blk_ w4.heap.size rfl 35 #[.slice A1 n c1, .slice A2 m c2]
              simp only [List.cons_append, List.nil_append] at hW
              have hbw : w.heap.size ≤ wz.heap.size := HS.out.bl.size
              clear hl p0 p1
              go_wp2_with fail
              generalize w4.alloc (.cells #[.slice A1 n c1, .slice A2 m c2] 35) = WW at *
              have D0 : ∀ w', Led w w' [tBlk (w.heap.size + 1) 64 #[.int .i64 f.a, .int .i64 f.b, .int .i64 f.len, .int .i64 f.risk], tBlk w.heap.size 35 #[.slice A n c, .slice A' m d]] → w'.cell? ⟨w.heap.size, 1, none⟩ = some (.slice A' m d) := fun _ h => h.cell 1 1 rfl rfl
              have E0 : ∀ w', Led w w' [tBlk (w.heap.size + 1) 64 #[.int .i64 f.a, .int .i64 f.b, .int .i64 f.len, .int .i64 f.risk], tBlk w.heap.size 35 #[.slice A n c, .slice A' m d]] → w'.cell? ⟨w.heap.size + 1, 0, none⟩ = some (.int .i64 f.a) := fun _ h => h.cell 0 0 rfl rfl
              have E1 : ∀ w', Led w w' [tBlk (w.heap.size + 1) 64 #[.int .i64 f.a, .int .i64 f.b, .int .i64 f.len, .int .i64 f.risk], tBlk w.heap.size 35 #[.slice A n c, .slice A' m d]] → w'.cell? ⟨w.heap.size + 1, 1, none⟩ = some (.int .i64 f.b) := fun _ h => h.cell 0 1 rfl rfl
              have E2 : ∀ w', Led w w' [tBlk (w.heap.size + 1) 64 #[.int .i64 f.a, .int .i64 f.b, .int .i64 f.len, .int .i64 f.risk], tBlk w.heap.size 35 #[.slice A n c, .slice A' m d]] → w'.cell? ⟨w.heap.size + 1, 2, none⟩ = some (.int .i64 f.len) := fun _ h => h.cell 0 2 rfl rfl
              have E3 : ∀ w', Led w w' [tBlk (w.heap.size + 1) 64 #[.int .i64 f.a, .int .i64 f.b, .int .i64 f.len, .int .i64 f.risk], tBlk w.heap.size 35 #[.slice A n c, .slice A' m d]] → w'.cell? ⟨w.heap.size + 1, 3, none⟩ = some (.int .i64 f.risk) := fun _ h => h.cell 0 3 rfl rfl
              refine wp_region_held_drew (S := fun w' => Led w w' [tBlk (w.heap.size + 1) 64 #[.int .i64 f.a, .int .i64 f.b, .int .i64 f.len, .int .i64 f.risk], tBlk w.heap.size 35 #[.slice A n c, .slice A' m d]]) (by kernel_rfl) ((hW.step (Cls.drew _)).drop 4) (fun hHeld => ?_)
              refine wpAnyH_take (i := 1) (oi := _) (v := ?_) rfl (by kernel_rfl) (by kernel_rfl) (by kernel_rfl) (fun _ _ _ h => h) (Or.inl ⟨by rfl, ?_⟩) (by assumption) ?_
              rotate_left
              · intro w hSw; go_simp; with_reducible rfl
              simp only [Act.put, List.getElem_toArray, List.getElem_cons_zero, List.getElem_cons_succ, List.setIfInBounds_toArray, List.set_cons_zero, List.set_cons_succ]
              refine wpAnyH_take (i := 2) (oi := _) (v := ?_) rfl (by kernel_rfl) (by kernel_rfl) (by kernel_rfl) (fun _ _ _ h => h) (Or.inl ⟨by rfl, ?_⟩) (by assumption) ?_
              rotate_left
              · intro w hSw; go_simp; with_reducible rfl
              simp only [Act.put, List.getElem_toArray, List.getElem_cons_zero, List.getElem_cons_succ, List.setIfInBounds_toArray, List.set_cons_zero, List.set_cons_succ]
              refine wpAnyH_take (i := 3) (oi := _) (v := ?_) rfl (by kernel_rfl) (by kernel_rfl) (by kernel_rfl) (fun _ _ _ h => h) (Or.inl ⟨by rfl, ?_⟩) (by assumption) ?_
              rotate_left
              · intro w hSw; go_simp; with_reducible rfl
              simp only [Act.put, List.getElem_toArray, List.getElem_cons_zero, List.getElem_cons_succ, List.setIfInBounds_toArray, List.set_cons_zero, List.set_cons_succ]
              refine wpAnyH_take (i := 4) (oi := _) (v := ?_) rfl (by kernel_rfl) (by kernel_rfl) (by kernel_rfl) (fun _ _ _ h => h) (Or.inl ⟨by rfl, ?_⟩) (by assumption) ?_
              rotate_left
              · intro w hSw; go_simp; with_reducible rfl
              simp only [Act.put, List.getElem_toArray, List.getElem_cons_zero, List.getElem_cons_succ, List.setIfInBounds_toArray, List.set_cons_zero, List.set_cons_succ]
              refine wpAnyH_take (i := 6) (oi := _) (v := ?_) rfl (by kernel_rfl) (by kernel_rfl) (by kernel_rfl) (fun _ _ _ h => h) (Or.inl ⟨by rfl, ?_⟩) (by assumption) ?_
              rotate_left
              · intro w hSw; go_simp; with_reducible rfl
              simp only [Act.put, List.getElem_toArray, List.getElem_cons_zero, List.getElem_cons_succ, List.setIfInBounds_toArray, List.set_cons_zero, List.set_cons_succ]
              refine wpAnyH_take (i := 9) (oi := _) (v := ?_) rfl (by kernel_rfl) (by kernel_rfl) (by kernel_rfl) (fun _ _ _ h => h) (Or.inl ⟨by rfl, ?_⟩) (by assumption) ?_
              rotate_left
              · intro w hSw; go_simp; with_reducible rfl
              simp only [Act.put, List.getElem_toArray, List.getElem_cons_zero, List.getElem_cons_succ, List.setIfInBounds_toArray, List.set_cons_zero, List.set_cons_succ]
              refine wpAnyH_take (i := 10) (oi := _) (v := ?_) rfl (by kernel_rfl) (by kernel_rfl) (by kernel_rfl) (fun _ _ _ h => h) (Or.inl ⟨by rfl, ?_⟩) (by assumption) ?_
              rotate_left
              · intro w hSw; go_simp; with_reducible rfl
              simp only [Act.put, List.getElem_toArray, List.getElem_cons_zero, List.getElem_cons_succ, List.setIfInBounds_toArray, List.set_cons_zero, List.set_cons_succ]
              refine wpAnyH_take (i := 11) (oi := _) (v := ?_) rfl (by kernel_rfl) (by kernel_rfl) (by kernel_rfl) (fun _ _ _ h => h) (Or.inl ⟨by rfl, ?_⟩) (by assumption) ?_
              rotate_left
              · intro w hSw; go_simp; with_reducible rfl
              simp only [Act.put, List.getElem_toArray, List.getElem_cons_zero, List.getElem_cons_succ, List.setIfInBounds_toArray, List.set_cons_zero, List.set_cons_succ]
              refine wpAnyH_take (i := 12) (oi := _) (v := ?_) rfl (by kernel_rfl) (by kernel_rfl) (by kernel_rfl) (fun _ _ _ h => h) (Or.inl ⟨by rfl, ?_⟩) (by assumption) ?_
              rotate_left
              · intro w hSw; go_simp; with_reducible rfl
              simp only [Act.put, List.getElem_toArray, List.getElem_cons_zero, List.getElem_cons_succ, List.setIfInBounds_toArray, List.set_cons_zero, List.set_cons_succ]
              refine wpAnyH_ready (rs := [0, 7]) (by kernel_rfl) (by simp) ?_
              refine AllReadyH.cons rfl (fun K hK => ?_) ?_
              · skip
                have a1 := (hW.empty elFib 64 (WW.heap.size) rfl w.heap.size (by have := hW.bl.size; omega)).step (Cls.drew _)
                go_simp
                go_wp2_with fail
                refine hK.out _ _ (a1.drop 5) (fun hHeld => ?_)
                clear hK K
                try simp only [Act.put, List.getElem_toArray, List.getElem_cons_zero, List.getElem_cons_succ, List.setIfInBounds_toArray, List.set_cons_zero, List.set_cons_succ]
                refine wpAnyH_ready (rs := [5, 7]) (by kernel_rfl) (by simp) ?_
                refine AllReadyH.cons rfl (fun K hK => ?_) ?_
                · skip
                  refine step_append_led rfl _ _ 33 rfl a1 0 rfl Try.underlying33 hj hy0 hy1 (by rw [hy2]; decide) rfl rfl rfl ((HN.out.grow a1.bl).fibs.take hk) (by simp; omega) a1.bl.size ?_
                  intro B1 b1 v1 h1
                  simp only [List.length_nil, Nat.zero_add, List.nil_append] at h1 ⊢
                  rw [HT.out] at h1
                  refine hK.out _ _ (h1.drop 5) (fun hHeld => ?_)
                  clear hK K
                  try simp only [Act.put, List.getElem_toArray, List.getElem_cons_zero, List.getElem_cons_succ, List.setIfInBounds_toArray, List.set_cons_zero, List.set_cons_succ]
                  refine wpAnyH_ready (rs := [7]) (by kernel_rfl) (by simp) ?_
                  refine AllReadyH.cons rfl (fun K hK => ?_) AllReadyH.nil
                  have a2 := h1.blk_ v1.heap.size rfl 64 #[.int .i64 f.a, .int .i64 f.b, .int .i64 f.len, .int .i64 f.risk]
                  go_simp
                  go_wp2_with fail
                  refine hK.out _ _ (a2.drop 6) (fun hHeld => ?_)
                  clear hK K
                  try simp only [Act.put, List.getElem_toArray, List.getElem_cons_zero, List.getElem_cons_succ, List.setIfInBounds_toArray, List.set_cons_zero, List.set_cons_succ]
                  refine wpAnyH_ready (rs := [8]) (by kernel_rfl) (by simp) ?_
                  refine AllReadyH.cons rfl (fun K hK => ?_) AllReadyH.nil
                  refine step_append_led rfl _ _ 33 rfl a2 1 rfl Try.underlying33 hj hy0 hy1 (by rw [hy2]; decide) rfl rfl rfl (sees_fib (a2.get 0 rfl)) (by have := hTl.out; omega) a2.bl.size ?_
                  intro B2 b2 v2 h2
                  rw [HT2.out, hTl.out] at h2
                  rw [hTl.out]
                  refine hK.out _ _ (h2.drop 6) (fun hHeld => ?_)
                  clear hK K
                  try simp only [Act.put, List.getElem_toArray, List.getElem_cons_zero, List.getElem_cons_succ, List.setIfInBounds_toArray, List.set_cons_zero, List.set_cons_succ]
                  refine wpAnyH_ready (rs := [13]) (by kernel_rfl) (by simp) ?_
                  refine AllReadyH.cons rfl (fun K hK => ?_) AllReadyH.nil
                  refine step_append_led rfl _ _ 33 rfl h2 1 rfl Try.underlying33 hj hy0 hy1 (by rw [hy2]; decide) rfl rfl rfl (Sees.nil elFib _ 0 _) (by have := hT2l.out; omega) h2.bl.size ?_
                  intro B3 b3 v3 h3
                  rw [HT3.out, hT2l.out, hkm1.out] at h3
                  rw [hT2l.out, hkm1.out]
                  refine hK.out _ _ (h3.drop 6) (fun hHeld => ?_)
                  clear hK K
                  try simp only [Act.put, List.getElem_toArray, List.getElem_cons_zero, List.getElem_cons_succ, List.setIfInBounds_toArray, List.set_cons_zero, List.set_cons_succ]
                  refine wpAnyH_take (i := 14) (oi := _) (v := ?_) rfl (by kernel_rfl) (by kernel_rfl) (by kernel_rfl) (fun _ _ _ h => h) (Or.inl ⟨by rfl, ?_⟩) (by assumption) ?_
                  rotate_left
                  · intro w hSw; go_simp; with_reducible rfl
                  simp only [Act.put, List.getElem_toArray, List.getElem_cons_zero, List.getElem_cons_succ, List.setIfInBounds_toArray, List.set_cons_zero, List.set_cons_succ]
                  have q1 := h3.cell 2 1 rfl rfl
                  have z1 := h3.frozen 2 1 rfl
                  have h4 := hid (h3.set 2 rfl 1 (.slice B3 (m + 1) b3))
                  refine wpAnyH_ready (rs := [15]) (by kernel_rfl) (by simp) ?_
                  refine AllReadyH.cons rfl (fun K hK => ?_) AllReadyH.nil
                  go_simp
                  go_wp2_with fail
                  refine hK.out _ _ (h4.out.drop 6) (fun hHeld => ?_)
                  clear hK K
                  try simp only [Act.put, List.getElem_toArray, List.getElem_cons_zero, List.getElem_cons_succ, List.setIfInBounds_toArray, List.set_cons_zero, List.set_cons_succ]
                  refine wpAnyH_done (by kernel_rfl) ?_ _
                  have r0 := h4.out.cell 2 0 rfl rfl
                  have r1 := h4.out.cell 2 1 rfl rfl
                  have y0 := h4.out.cell 5 0 rfl rfl
                  have t0 := h4.out.frozen 5 0 rfl
                  have y1 := h4.out.cell 5 1 rfl rfl
                  have t1 := h4.out.frozen 5 1 rfl
                  have HE := hid ((h4.out.set 5 rfl 0 (.slice A1 n c1)).set 5 rfl 1 (.slice B3 (m + 1) b3))
                  clear q1 z1 D0 E0 E1 E2 E3 h1 h2 h3 hHeld
                  go_wp2
                  exact bodyPost_ret (v := .tuple #[.agg #[.slice A1 n c1, .slice B3 (m + 1) b3], .int .i64 k, .bool true]) (by simp [results, Try.results45, go_sem, y0, y1]) rfl
                    ⟨A1, c1, B3, b3, by rw [hB.out, H.out.1, H.out.2.1, H.out.2.2, hlx.out, hil.out], by rw [H.out.1, H.out.2.1, hlx.out, hil.out]; exact HE.out.netOwn2 3 1 rfl rfl hlx.out.symm hil.out.symm hbw (Nat.le_refl _), HE.out.bl⟩
                · skip
                  refine AllReadyH.cons rfl (fun K hK => ?_) AllReadyH.nil
                  have a2 := ((hW.empty elFib 64 (WW.heap.size) rfl w.heap.size (by have := hW.bl.size; omega)).blk_ (WW.heap.size + 1) (by simp) 64 #[.int .i64 f.a, .int .i64 f.b, .int .i64 f.len, .int .i64 f.risk]).step (Cls.drew _)
                  go_simp
                  go_wp2_with fail
                  refine hK.out _ _ (a2.drop 6) (fun hHeld => ?_)
                  clear hK K
                  try simp only [Act.put, List.getElem_toArray, List.getElem_cons_zero, List.getElem_cons_succ, List.setIfInBounds_toArray, List.set_cons_zero, List.set_cons_succ]
                  refine wpAnyH_ready (rs := [5]) (by kernel_rfl) (by simp) ?_
                  refine AllReadyH.cons rfl (fun K hK => ?_) AllReadyH.nil
                  refine step_append_led rfl _ _ 33 rfl a2 1 rfl Try.underlying33 hj hy0 hy1 (by rw [hy2]; decide) rfl rfl rfl ((HN.out.grow a2.bl).fibs.take hk) (by simp; omega) a2.bl.size ?_
                  intro B1 b1 v1 h1
                  simp only [List.length_nil, Nat.zero_add, List.nil_append] at h1 ⊢
                  rw [HT.out] at h1
                  refine hK.out _ _ (h1.drop 6) (fun hHeld => ?_)
                  clear hK K
                  try simp only [Act.put, List.getElem_toArray, List.getElem_cons_zero, List.getElem_cons_succ, List.setIfInBounds_toArray, List.set_cons_zero, List.set_cons_succ]
                  refine wpAnyH_ready (rs := [8]) (by kernel_rfl) (by simp) ?_
                  refine AllReadyH.cons rfl (fun K hK => ?_) AllReadyH.nil
                  refine step_append_led rfl _ _ 33 rfl h1 1 rfl Try.underlying33 hj hy0 hy1 (by rw [hy2]; decide) rfl rfl rfl (sees_fib (h1.get 0 rfl)) (by have := hTl.out; omega) h1.bl.size ?_
                  intro B2 b2 v2 h2
                  rw [HT2.out, hTl.out] at h2
                  rw [hTl.out]
                  refine hK.out _ _ (h2.drop 6) (fun hHeld => ?_)
                  clear hK K
                  try simp only [Act.put, List.getElem_toArray, List.getElem_cons_zero, List.getElem_cons_succ, List.setIfInBounds_toArray, List.set_cons_zero, List.set_cons_succ]
                  refine wpAnyH_ready (rs := [13]) (by kernel_rfl) (by simp) ?_
                  refine AllReadyH.cons rfl (fun K hK => ?_) AllReadyH.nil
                  refine step_append_led rfl _ _ 33 rfl h2 1 rfl Try.underlying33 hj hy0 hy1 (by rw [hy2]; decide) rfl rfl rfl (Sees.nil elFib _ 0 _) (by have := hT2l.out; omega) h2.bl.size ?_
                  intro B3 b3 v3 h3
                  rw [HT3.out, hT2l.out, hkm1.out] at h3
                  rw [hT2l.out, hkm1.out]
                  refine hK.out _ _ (h3.drop 6) (fun hHeld => ?_)
                  clear hK K
                  try simp only [Act.put, List.getElem_toArray, List.getElem_cons_zero, List.getElem_cons_succ, List.setIfInBounds_toArray, List.set_cons_zero, List.set_cons_succ]
                  refine wpAnyH_take (i := 14) (oi := _) (v := ?_) rfl (by kernel_rfl) (by kernel_rfl) (by kernel_rfl) (fun _ _ _ h => h) (Or.inl ⟨by rfl, ?_⟩) (by assumption) ?_
                  rotate_left
                  · intro w hSw; go_simp; with_reducible rfl
                  simp only [Act.put, List.getElem_toArray, List.getElem_cons_zero, List.getElem_cons_succ, List.setIfInBounds_toArray, List.set_cons_zero, List.set_cons_succ]
                  have q1 := h3.cell 2 1 rfl rfl
                  have z1 := h3.frozen 2 1 rfl
                  have h4 := hid (h3.set 2 rfl 1 (.slice B3 (m + 1) b3))
                  refine wpAnyH_ready (rs := [15]) (by kernel_rfl) (by simp) ?_
                  refine AllReadyH.cons rfl (fun K hK => ?_) AllReadyH.nil
                  go_simp
                  go_wp2_with fail
                  refine hK.out _ _ (h4.out.drop 6) (fun hHeld => ?_)
                  clear hK K
                  try simp only [Act.put, List.getElem_toArray, List.getElem_cons_zero, List.getElem_cons_succ, List.setIfInBounds_toArray, List.set_cons_zero, List.set_cons_succ]
                  refine wpAnyH_done (by kernel_rfl) ?_ _
                  have r0 := h4.out.cell 2 0 rfl rfl
                  have r1 := h4.out.cell 2 1 rfl rfl
                  have y0 := h4.out.cell 5 0 rfl rfl
                  have t0 := h4.out.frozen 5 0 rfl
                  have y1 := h4.out.cell 5 1 rfl rfl
                  have t1 := h4.out.frozen 5 1 rfl
                  have HE := hid ((h4.out.set 5 rfl 0 (.slice A1 n c1)).set 5 rfl 1 (.slice B3 (m + 1) b3))
                  clear q1 z1 D0 E0 E1 E2 E3 h1 h2 h3 hHeld
                  go_wp2
                  exact bodyPost_ret (v := .tuple #[.agg #[.slice A1 n c1, .slice B3 (m + 1) b3], .int .i64 k, .bool true]) (by simp [results, Try.results45, go_sem, y0, y1]) rfl
                    ⟨A1, c1, B3, b3, by rw [hB.out, H.out.1, H.out.2.1, H.out.2.2, hlx.out, hil.out], by rw [H.out.1, H.out.2.1, hlx.out, hil.out]; exact HE.out.netOwn2 3 1 rfl rfl hlx.out.symm hil.out.symm hbw (Nat.le_refl _), HE.out.bl⟩
              · skip
                refine AllReadyH.cons rfl (fun K hK => ?_) AllReadyH.nil
                have a1 := (hW.blk_ WW.heap.size rfl 64 #[.int .i64 f.a, .int .i64 f.b, .int .i64 f.len, .int .i64 f.risk]).step (Cls.drew _)
                go_simp
                go_wp2_with fail
                refine hK.out _ _ (a1.drop 5) (fun hHeld => ?_)
                clear hK K
                try simp only [Act.put, List.getElem_toArray, List.getElem_cons_zero, List.getElem_cons_succ, List.setIfInBounds_toArray, List.set_cons_zero, List.set_cons_succ]
                refine wpAnyH_ready (rs := [0]) (by kernel_rfl) (by simp) ?_
                refine AllReadyH.cons rfl (fun K hK => ?_) AllReadyH.nil
                have a2 := ((hW.blk_ WW.heap.size rfl 64 #[.int .i64 f.a, .int .i64 f.b, .int .i64 f.len, .int .i64 f.risk]).empty elFib 64 (WW.heap.size + 1) (by simp) w.heap.size (by have := hW.bl.size; omega)).step (Cls.drew _)
                go_simp
                go_wp2_with fail
                refine hK.out _ _ (a2.drop 6) (fun hHeld => ?_)
                clear hK K
                try simp only [Act.put, List.getElem_toArray, List.getElem_cons_zero, List.getElem_cons_succ, List.setIfInBounds_toArray, List.set_cons_zero, List.set_cons_succ]
                refine wpAnyH_ready (rs := [5]) (by kernel_rfl) (by simp) ?_
                refine AllReadyH.cons rfl (fun K hK => ?_) AllReadyH.nil
                refine step_append_led rfl _ _ 33 rfl a2 0 rfl Try.underlying33 hj hy0 hy1 (by rw [hy2]; decide) rfl rfl rfl ((HN.out.grow a2.bl).fibs.take hk) (by simp; omega) a2.bl.size ?_
                intro B1 b1 v1 h1
                simp only [List.length_nil, Nat.zero_add, List.nil_append] at h1 ⊢
                rw [HT.out] at h1
                refine hK.out _ _ (h1.drop 6) (fun hHeld => ?_)
                clear hK K
                try simp only [Act.put, List.getElem_toArray, List.getElem_cons_zero, List.getElem_cons_succ, List.setIfInBounds_toArray, List.set_cons_zero, List.set_cons_succ]
                refine wpAnyH_ready (rs := [8]) (by kernel_rfl) (by simp) ?_
                refine AllReadyH.cons rfl (fun K hK => ?_) AllReadyH.nil
                refine step_append_led rfl _ _ 33 rfl h1 0 rfl Try.underlying33 hj hy0 hy1 (by rw [hy2]; decide) rfl rfl rfl (sees_fib (h1.get 1 rfl)) (by have := hTl.out; omega) h1.bl.size ?_
                intro B2 b2 v2 h2
                rw [HT2.out, hTl.out] at h2
                rw [hTl.out]
                refine hK.out _ _ (h2.drop 6) (fun hHeld => ?_)
                clear hK K
                try simp only [Act.put, List.getElem_toArray, List.getElem_cons_zero, List.getElem_cons_succ, List.setIfInBounds_toArray, List.set_cons_zero, List.set_cons_succ]
                refine wpAnyH_ready (rs := [13]) (by kernel_rfl) (by simp) ?_
                refine AllReadyH.cons rfl (fun K hK => ?_) AllReadyH.nil
                refine step_append_led rfl _ _ 33 rfl h2 0 rfl Try.underlying33 hj hy0 hy1 (by rw [hy2]; decide) rfl rfl rfl (Sees.nil elFib _ 0 _) (by have := hT2l.out; omega) h2.bl.size ?_
                intro B3 b3 v3 h3
                rw [HT3.out, hT2l.out, hkm1.out] at h3
                rw [hT2l.out, hkm1.out]
                refine hK.out _ _ (h3.drop 6) (fun hHeld => ?_)
                clear hK K
                try simp only [Act.put, List.getElem_toArray, List.getElem_cons_zero, List.getElem_cons_succ, List.setIfInBounds_toArray, List.set_cons_zero, List.set_cons_succ]
                refine wpAnyH_take (i := 14) (oi := _) (v := ?_) rfl (by kernel_rfl) (by kernel_rfl) (by kernel_rfl) (fun _ _ _ h => h) (Or.inl ⟨by rfl, ?_⟩) (by assumption) ?_
                rotate_left
                · intro w hSw; go_simp; with_reducible rfl
                simp only [Act.put, List.getElem_toArray, List.getElem_cons_zero, List.getElem_cons_succ, List.setIfInBounds_toArray, List.set_cons_zero, List.set_cons_succ]
                have q1 := h3.cell 2 1 rfl rfl
                have z1 := h3.frozen 2 1 rfl
                have h4 := hid (h3.set 2 rfl 1 (.slice B3 (m + 1) b3))
                refine wpAnyH_ready (rs := [15]) (by kernel_rfl) (by simp) ?_
                refine AllReadyH.cons rfl (fun K hK => ?_) AllReadyH.nil
                go_simp
                go_wp2_with fail
                refine hK.out _ _ (h4.out.drop 6) (fun hHeld => ?_)
                clear hK K
                try simp only [Act.put, List.getElem_toArray, List.getElem_cons_zero, List.getElem_cons_succ, List.setIfInBounds_toArray, List.set_cons_zero, List.set_cons_succ]
                refine wpAnyH_done (by kernel_rfl) ?_ _
                have r0 := h4.out.cell 2 0 rfl rfl
                have r1 := h4.out.cell 2 1 rfl rfl
                have y0 := h4.out.cell 5 0 rfl rfl
                have t0 := h4.out.frozen 5 0 rfl
                have y1 := h4.out.cell 5 1 rfl rfl
                have t1 := h4.out.frozen 5 1 rfl
                have HE := hid ((h4.out.set 5 rfl 0 (.slice A1 n c1)).set 5 rfl 1 (.slice B3 (m + 1) b3))
                clear q1 z1 D0 E0 E1 E2 E3 h1 h2 h3 hHeld
                go_wp2
                exact bodyPost_ret (v := .tuple #[.agg #[.slice A1 n c1, .slice B3 (m + 1) b3], .int .i64 k, .bool true]) (by simp [results, Try.results45, go_sem, y0, y1]) rfl
                  ⟨A1, c1, B3, b3, by rw [hB.out, H.out.1, H.out.2.1, H.out.2.2, hlx.out, hil.out], by rw [H.out.1, H.out.2.1, hlx.out, hil.out]; exact HE.out.netOwn2 3 0 rfl rfl hlx.out.symm hil.out.symm hbw (Nat.le_refl _), HE.out.bl⟩
end
end Go.Proofs.Ytjklphlgmlomjaa
/- szStringS, walked: it takes the lengths off a number, -1 if that is too small. Conditions: the number lies in 0 .. 1048576. -/
namespace Go.Proofs.Ytjklphlgmlomjaa
open Go.RowKit
def lessI (left : Int) (t : Nat) : Int := if (t : Int) ≤ left then left - t else -1
def sumTo (xs : List ByteArray) (k : Nat) : Nat := ((xs.take k).map ByteArray.size).sum
def strTot (xs : List ByteArray) : Nat := xs.length + sumTo xs xs.length
theorem sumTo_succ {xs : List ByteArray} {k : Nat} {x : ByteArray} (h : xs[k]? = some x) : sumTo xs (k + 1) = sumTo xs k + x.size := by
  unfold sumTo
  obtain ⟨hk, hx⟩ := List.getElem?_eq_some_iff.1 h
  rw [List.take_succ_eq_append_getElem hk, hx, List.map_append, List.sum_append]; simp
theorem sumTo_mono {xs : List ByteArray} {j k : Nat} (h : j ≤ k) : sumTo xs j ≤ sumTo xs k := by
  unfold sumTo
  obtain ⟨d, rfl⟩ := Nat.exists_eq_add_of_le h
  rw [List.take_add, List.map_append, List.sum_append]; omega
theorem size_le_tot {xs : List ByteArray} {x : ByteArray} (h : x ∈ xs) : x.size ≤ strTot xs := by
  obtain ⟨k, hk, e⟩ := List.mem_iff_getElem.1 h
  have h1 := sumTo_succ (xs := xs) (k := k) (x := x) (by rw [List.getElem?_eq_getElem hk, e])
  have h2 := sumTo_mono (xs := xs) (j := k + 1) (k := xs.length) hk
  unfold strTot; omega
theorem lessI_neg {left : Int} {t : Nat} (h : left < t) : lessI left t = -1 := by unfold lessI; rw [if_neg (by omega)]
theorem lessI_pos {left : Int} {t : Nat} (h : (t : Int) ≤ left) : lessI left t = left - t := by unfold lessI; rw [if_pos h]
set_option maxRecDepth 100000 in
theorem szStringS_any {B n c : Nat} {A : Option Addr} {xs : List ByteArray} (left : Int) (w : World) (hA : Sees elStr w B A n xs) (hn : n ≤ maxLen) (hx : ∀ x ∈ xs, x.size ≤ maxLen) (h0 : 0 ≤ left) (hl : left ≤ 1048576) :
    Calls Try.prog 53 #[.slice A n c, .int .i64 left] w fun e w' => e = .returned (.int .i64 (lessI left (strTot xs))) ∧ w = w' := by
  have hlen := hA.len
  unfold maxLen at hn hx
  by_cases hs : (n : Int) ≤ left
  · have HL := hid hlen
    clear hlen
    have e0 : decide (left - (n : Int) < 0) = false := by simp; omega
    go_enter Try.func53, Try.ntmps53
    go_wp2
    clear e0
    go_loop [1, 5] (fun l i => ∃ (k : Nat) (r : Int), k ≤ n ∧ i = .int .i64 k ∧ l = .int .i64 r ∧ 0 ≤ r ∧ r ≤ 1048576 ∧ Hid (r = left - n - sumTo xs k)) (fun _ i => n - (intOf i).toNat)
    case atStart => exact ⟨0, left - n, Nat.zero_le _, rfl, rfl, by omega, by omega, by unfold Hid sumTo; simp⟩
    case round =>
      obtain ⟨k, r, hk, rfl, rfl, hr0, hr1, hr⟩ := hrel
      by_cases hlt : k < n
      · obtain ⟨b, o, rfl, _, hc⟩ := hA.at_ hlt
        obtain ⟨x, hxk⟩ : ∃ x, xs[k]? = some x := ⟨xs[k]'(by rw [HL.out]; exact hlt), List.getElem?_eq_getElem _⟩
        have hcx := hc k x hxk 0 _ rfl
        simp only [elStr, Nat.mul_one, Nat.add_zero] at hcx
        have hxs : x.size ≤ 2 ^ 63 - 1 := hx x (List.mem_of_getElem? hxk)
        have hsucc := sumTo_succ hxk
        have hmono := sumTo_mono (xs := xs) (j := k + 1) (k := n) hlt
        clear hc hxk
        by_cases hneg : r - (x.size : Int) < 0
        · have HN : Hid (lessI left (strTot xs) = -1) := lessI_neg (by have := hr.out; have := HL.out; unfold strTot; rw [this]; omega)
          clear hsucc hmono
          go_wp2
          go_ret
          exact ⟨by rw [HN.out]; rfl, rfl⟩
        · have HR : Hid (r - (x.size : Int) = left - n - sumTo xs (k + 1)) := by have := hr.out; unfold Hid; omega
          clear hsucc hmono hr
          go_wp2
          go_round
          case rel => exact ⟨k + 1, _, by omega, by go_num, rfl, by omega, by omega, HR⟩
          case measure => simp [intOf]; omega
      · have HR : Hid (lessI left (strTot xs) = r) := by
          obtain rfl : k = n := by omega
          have h1 := hr.out; have h2 := HL.out
          refine hid ?_
          rw [lessI_pos (by unfold strTot; rw [h2]; omega)]; unfold strTot; rw [h2]; omega
        clear hr
        go_wp2
        go_ret
        exact ⟨by rw [HR.out]; rfl, rfl⟩
  · have HN : Hid (lessI left (strTot xs) = -1) := lessI_neg (by unfold strTot; omega)
    clear hlen
    go_enter Try.func53, Try.ntmps53
    go_wp2
    go_ret
    exact ⟨by rw [HN.out]; rfl, rfl⟩
end Go.Proofs.Ytjklphlgmlomjaa
