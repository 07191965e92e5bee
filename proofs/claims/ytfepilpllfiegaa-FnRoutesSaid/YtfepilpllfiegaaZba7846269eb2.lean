/- Lemmas and walks that the claim rests on, laid together. Conditions: none. -/
import Derived.Test.YtfepilpllfiegaaZ02c91a162493
import Derived.Test.YtfepilpllfiegaaRows
import Derived.Test.YtfepilpllfiegaaZc731a5b1582e
import Derived.Test.YtfepilpllfiegaaZ76d3d4a5ee99
import Derived.Test.YtfepilpllfiegaaZ5f3a9e2c6d48
import Derived.Test.YtfepilpllfiegaaZca6a11a8a0df
/- Rows of routes in the ledger: equal, marked, held. Conditions: at most 1048576 routes and fibers of a route; marks below 2^40. -/
namespace Go.Proofs.Ytfepilpllfiegaa
open Go.RowKit
theorem rsS_eq {v : Value} {ss tt : List (Int × Sl)} (h : tt.map (·.2) = ss.map (·.2)) : rsS v tt = rsS v ss := by
  funext b
  apply propext
  unfold rsS
  constructor
  · rintro (e | ⟨i, t, ht, e⟩)
    · exact .inl e
    · obtain ⟨s, hs, h2⟩ := snd_of h ht
      exact .inr ⟨i, s, hs, by rw [h2]; exact e⟩
  · rintro (e | ⟨i, t, ht, e⟩)
    · exact .inl e
    · obtain ⟨s, hs, h2⟩ := snd_of h.symm ht
      exact .inr ⟨i, s, hs, by rw [h2]; exact e⟩
variable {w0 w : World} {L : List Thing} {base base' n c c' : Nat} {A A' : Option Addr} {ss ss' : List (Int × Sl)} {rows : List (Int × List Int)}
theorem rs_n (h : Led w0 w L) (i : Nat) (hi : L[i]? = some (tRS base (.slice A n c) ss rows)) : ss.length = n := by
  have h1 : OwnsRS w base _ ss rows := h.get i hi
  obtain ⟨A', c', hv, _⟩ := h1.1.form
  injection hv with _ e2
  exact e2.symm
theorem rs_rows (h : Led w0 w L) (i : Nat) (hi : L[i]? = some (tRS base (.slice A n c) ss rows)) : rows.length = n := by
  have h1 : OwnsRS w base _ ss rows := h.get i hi
  rw [← h1.2.1]
  exact rs_n h i hi
end Go.Proofs.Ytfepilpllfiegaa
/- Things of a ledger put into another order, two made one; a route appended to a row of routes. Conditions: none. -/
namespace Go.Proofs.Ytfepilpllfiegaa
open Go.RowKit
/-- The same things in another order, or some of them. -/
theorem Led.reidx {w0 w : World} {L L' : List Thing} (h : Led w0 w L) (f : Nat → Nat) (hf : ∀ i j, i ≠ j → f i ≠ f j) (hL : ∀ (i : Nat) t, L'[i]? = some t → L[f i]? = some t) : Led w0 w L' :=
  ⟨h.bl, fun i t hi => h.all (f i) t (hL i t hi), fun i j a b hij ha hb => h.apart (f i) (f j) a b (hf i j hij) (hL i a ha) (hL j b hb)⟩
/-- Two things as one. -/
def tBoth (t a : Thing) : Thing :=
  ⟨fun b => t.S b ∨ a.S b, fun w => t.is w ∧ a.is w, fun w w' h hs hb => ⟨t.st w w' h.1 hs (fun b h => hb b (.inl h)), a.st w w' h.2 hs (fun b h => hb b (.inr h))⟩,
    fun w h b e => by rcases e with e | e; exact t.lies w h.1 b e; exact a.lies w h.2 b e⟩
theorem Led.merge {w0 w : World} {L : List Thing} {a t : Thing} (h : Led w0 w (a :: L)) (j : Nat) (hj : L[j]? = some t) : Led w0 w (L.set j (tBoth t a)) := by
  have ha := h.all 0 a rfl
  have ht := h.all (j + 1) t (by simpa using hj)
  have key : ∀ (i : Nat) u, (L.set j (tBoth t a))[i]? = some u → (i = j ∧ u = tBoth t a) ∨ (i ≠ j ∧ L[i]? = some u) := by
    intro i u hu
    rw [List.getElem?_set] at hu
    by_cases hij : j = i
    · subst hij
      rw [if_pos rfl] at hu
      split at hu
      · injection hu with hu; exact .inl ⟨rfl, hu.symm⟩
      · cases hu
    · rw [if_neg hij] at hu; exact .inr ⟨fun e => hij e.symm, hu⟩
  have ap : ∀ (i : Nat) u, i ≠ j → L[i]? = some u → ∀ k, (t.S k ∨ a.S k) → ¬ u.S k := by
    intro i u hij hu k hk h2
    rcases hk with hk | hk
    · exact h.apart (j + 1) (i + 1) t u (by omega) (by simpa using hj) (by simpa using hu) k hk h2
    · exact h.apart 0 (i + 1) a u (by omega) rfl (by simpa using hu) k hk h2
  refine ⟨h.bl, fun i u hu => ?_, fun i k u v hik hu hv x h1 h2 => ?_⟩
  · rcases key i u hu with ⟨rfl, rfl⟩ | ⟨_, hu'⟩
    · exact ⟨⟨ht.1, ha.1⟩, fun b hb => by rcases hb with hb | hb; exact ht.2 b hb; exact ha.2 b hb⟩
    · exact h.all (i + 1) u (by simpa using hu')
  · rcases key i u hu with ⟨rfl, rfl⟩ | ⟨hi, hu'⟩
    · rcases key k v hv with ⟨rfl, rfl⟩ | ⟨hk, hv'⟩
      · exact hik rfl
      · exact ap k v hk hv' x h1 h2
    · rcases key k v hv with ⟨rfl, rfl⟩ | ⟨hk, hv'⟩
      · exact ap i u hi hu' x h2 h1
      · exact h.apart (i + 1) (k + 1) u v (by omega) (by simpa using hu') (by simpa using hv') x h1 h2
/-- One route more; its row lay apart. -/
theorem OwnsRS.push2 {w w3 : World} {base b : Nat} {v v' : Value} {ss : List (Int × Sl)} {rows : List (Int × List Int)} {r0 : Int × List Int} {s0 : Int × Sl} (h : OwnsRS w base v ss rows) (h0 : s0.1 = r0.1) (hb : base ≤ b) (hr : Owns elInt w b 3 (slV s0.2) r0.2)
    (hap : ∀ k, rsS v ss k → ¬ (slV s0.2).ownBlock = some k) (hown : Owns elRt w3 base 35 v' (ss ++ [s0])) (hg : Touch (fun b => v.ownBlock = some b) w w3) : OwnsRS w3 base v' (ss ++ [s0]) (rows ++ [r0]) := by
  refine ⟨hown, by simp [h.2.1], fun i s r h3 h4 => ?_, fun i j s t g hij h3 h4 h5 h6 => ?_⟩
  · rcases Nat.lt_or_ge i ss.length with hi | hi
    · rw [List.getElem?_append_left hi] at h3
      rw [List.getElem?_append_left (by rw [← h.2.1]; exact hi)] at h4
      obtain ⟨e0, ho⟩ := h.2.2.1 i s r h3 h4
      exact ⟨e0, ho.touch hg (fun g hg' => owns_ne h.1 ho (by decide) g hg')⟩
    · rw [List.getElem?_append_right hi] at h3
      rw [List.getElem?_append_right (by rw [← h.2.1]; exact hi)] at h4
      have e1 : i - ss.length = 0 := by have := (List.getElem?_eq_some_iff.1 h3).1; simp at this; omega
      have e2 : i - rows.length = 0 := by rw [← h.2.1]; exact e1
      rw [e1] at h3; rw [e2] at h4
      simp at h3 h4; subst h3; subst h4
      exact ⟨h0, (hr.touch hg (fun g hg' => owns_ne h.1 hr (by decide) g hg')).base hb⟩
  · rcases Nat.lt_or_ge j ss.length with hj | hj
    · rw [List.getElem?_append_left hj] at h4
      rw [List.getElem?_append_left (by omega)] at h3
      exact h.2.2.2 i j s t g hij h3 h4 h5 h6
    · rw [List.getElem?_append_right hj] at h4
      have e1 : j - ss.length = 0 := by have := (List.getElem?_eq_some_iff.1 h4).1; simp at this; omega
      rw [e1] at h4; simp at h4; subst h4
      rw [List.getElem?_append_left (by omega)] at h3
      exact hap g (.inr ⟨i, s, h3, h5⟩) h6
section
variable {w0 w : World} {L : List Thing} {ops : Array Oper} {o : Oper} {a : Act} {Q : Exit → Act → World → Prop} {K : Act → World → Prop} {F : Prop}
/-- append of one route whose row of fibers is the newest thing of the ledger. -/
theorem step_append_rs (hgd : o.guard = none) (s x : Operand) (ho : o.op = .call { callee := .builtin .append, args := #[s, x], argTypes := #[30, 30] }) {base b B c : Nat} {v : Value} {ss : List (Int × Sl)} {rows : List (Int × List Int)} {r0 : Int × List Int} {s0 : Int × Sl} {X : Option Addr}
    (hS : Led w0 w (tOwns elInt b 3 (slV s0.2) r0.2 :: L)) (j : Nat) (hj : L[j]? = some (tRS base v ss rows)) (h0 : s0.1 = r0.1) (hbb : base ≤ b) (hs : a.eval s = v) (hx : a.eval x = .slice X 1 c) (hX : Sees elRt w B X 1 [s0]) (h63 : ss.length + 1 ≤ 1099511627776) (hbase : base ≤ w.heap.size)
    (h : ∀ A' c' w', Led w0 w' (L.set j (tRS base (.slice A' (ss.length + 1) c') (ss ++ [s0]) (rows ++ [r0]))) → K (a.put o.dst (.slice A' (ss.length + 1) c')) w') : if Region.wanted o (yielded ops a.tmps) = true then Oper.wp Try.prog o a w K Q else F := by
  have hw : Region.wanted o (yielded ops a.tmps) = true := by simp [Region.wanted, hgd]
  rw [if_pos hw]
  obtain ⟨i0, hi, hz0, hz1, hz2⟩ := info_parts rt_info
  have hR : OwnsRS w base v ss rows := hS.get (j + 1) (by simpa using hj)
  have hF : Owns elInt w b 3 (slV s0.2) r0.2 := hS.get 0 rfl
  obtain ⟨A', c', w', hr, h2, h3, h4⟩ := run_append_all (P := Try.prog) (ty := o.type) (c := c) Try.underlying30 hi hz0 hz1 rfl hR.1 hX h63 (by rw [hz2]; decide) hbase
  unfold Oper.wp execOp
  simp only [ho, resolve, invoke, builtin, Sem.run_bind, Sem.run_pure, Result.andThen_ok, List.map_toArray, List.map_cons, List.map_nil, hs, hx, hr]
  have hT : Touch (fun b => v.ownBlock = some b) w w' := ⟨h3.os, h3.tape, h3.output, h3.size, fun k hk hn => h3.block k hk (fun e => hn e.symm)⟩
  have hap : ∀ k, rsS v ss k → ¬ (slV s0.2).ownBlock = some k := fun k h1 h5 => hS.apart (j + 1) 0 _ _ (by omega) (by simpa using hj) rfl k h1 h5
  have hnew := hR.push2 h0 hbb hF hap h2 hT
  have hm := hS.merge j hj
  have hjl : (L.set j (tBoth (tRS base v ss rows) (tOwns elInt b 3 (slV s0.2) r0.2)))[j]? = some (tBoth (tRS base v ss rows) (tOwns elInt b 3 (slV s0.2) r0.2)) := by
    rw [List.getElem?_set_self (List.getElem?_eq_some_iff.1 hj).1]
  have hfin := hm.regrow j hjl (t' := tRS base (.slice A' (ss.length + 1) c') (ss ++ [s0]) (rows ++ [r0])) (hT.mono fun b hb => .inl (.inl hb)) (fun k hk => by
    rcases hk with hk | ⟨i, t, ht, hk⟩
    · rcases h4 k hk with h5 | h5
      · exact .inl (.inl (.inl h5))
      · exact .inr (by omega)
    · rcases Nat.lt_or_ge i ss.length with hi | hi
      · rw [List.getElem?_append_left hi] at ht
        exact .inl (.inl (.inr ⟨i, t, ht, hk⟩))
      · rw [List.getElem?_append_right hi] at ht
        have e1 : i - ss.length = 0 := by have := (List.getElem?_eq_some_iff.1 ht).1; simp at this; omega
        rw [e1] at ht; simp at ht; subst ht
        exact .inl (.inr hk)) hnew
  rw [List.set_set] at hfin
  exact h A' c' w' hfin
end
end Go.Proofs.Ytfepilpllfiegaa
/- The risk group of a fiber: the reference's, walked. Conditions: none. -/
namespace Go.Proofs.Ytfepilpllfiegaa
open Go.RowKit
variable {n c m d : Nat} {A A' : Option Addr} {xs : List ByteArray} {fs : List Fib}
def riskF (fs : List Fib) (j : Nat) : Int := (fs.getD j ⟨0, 0, 0, 0⟩).risk
/-- The fibers that fail together with fiber i. -/
def groupL (fs : List Fib) (i : Nat) : List Int := if riskF fs i == 0 then [(i : Int)] else idsTo (fun j => riskF fs j == riskF fs i) fs.length
theorem riskF_of {j : Nat} {f : Fib} (h : fs[j]? = some f) : riskF fs j = f.risk := by unfold riskF; rw [getD_of h]
theorem filled_int1 (s : Int) : Filled elInt #[.int .i64 s] [s] 1 := by
  intro j x hj hx i u hu
  obtain rfl : j = 0 := by omega
  simp at hx; subst hx
  match i, hu with
  | 0, hu => simp [elInt] at hu; subst hu; rfl
set_option maxHeartbeats 1000000 in
set_option maxRecDepth 100000 in
theorem l2Group_any (i : Nat) (w : World) (h : NetIs w A n c A' m d xs fs) (hi' : i < m) :
    Calls Try.prog 139 #[.agg #[.slice A n c, .slice A' m d], .int .i64 i] w fun e w' => ∃ s : Sl, e = .returned (slV s) ∧ Owns elInt w' w.heap.size 3 (slV s) (groupL fs i) ∧ Below w.heap.size w w' := by
  obtain ⟨i0, hi, hz0, hz1, hz2⟩ := info_parts int_info
  have hb0 := bl_alloc (Below.refl w.heap.size w) (.cells #[.slice A n c, .slice A' m d] 27)
  have hx0 : Blk (w.alloc (.cells #[.slice A n c, .slice A' m d] 27)) w.heap.size 27 #[.slice A n c, .slice A' m d] := Blk.new _ _ _
  have h0 := h.grow hb0
  have hlf := h.flen
  have hm := h.mle
  have hsz0 : (w.alloc (.cells #[.slice A n c, .slice A' m d] 27)).heap.size = w.heap.size + 1 := by simp
  have q1 := hx0.cell 1
  simp at q1
  obtain ⟨fi, hfi⟩ := get_of (k := i) hlf hi'
  obtain ⟨b, o, rfl, _, hc⟩ := h0.fibs.at_ hi'
  have fr := hc i fi hfi 3 _ rfl
  simp only [elFib] at fr
  cases g : (fi.risk == 0)
  · have H : Hid (groupL fs i = idsTo (fun j => riskF fs j == fi.risk) m) := by unfold Hid groupL; rw [riskF_of hfi, g, hlf]; rfl
    have hoe : Hid (Owns elInt ((w.alloc (.cells #[.slice A n c, .slice (some ⟨b, o, none⟩) m d] 27)).alloc (.cells #[] 3)) (w.heap.size + 1) 3 (.slice (some ⟨w.heap.size + 1, 0, none⟩) 0 0) (idsTo (fun j => riskF fs j == fi.risk) 0)) :=
      Owns.of_blk (n := 0) (cap := 0) (cur := #[]) (by have := Blk.new (w.alloc (.cells #[.slice A n c, .slice (some ⟨b, o, none⟩) m d] 27)) 3 #[]; simpa using this) (Nat.le_refl _) rfl (Nat.le_refl _) rfl (by decide) (Filled.zero _ _ _)
    have hbe : Below (w.alloc (.cells #[.slice A n c, .slice (some ⟨b, o, none⟩) m d] 27)).heap.size (w.alloc (.cells #[.slice A n c, .slice (some ⟨b, o, none⟩) m d] 27)) ((w.alloc (.cells #[.slice A n c, .slice (some ⟨b, o, none⟩) m d] 27)).alloc (.cells #[] 3)) := bl_alloc (Below.refl _ _) _
    have HC := hid hc
    clear hfi hc
    go_enter Try.func139, Try.ntmps139
    go_wp2_with fail
    generalize hw0 : w.alloc (.cells #[.slice A n c, .slice (some ⟨b, o, none⟩) m d] 27) = w0 at *
    go_loopw [5, 6] (fun v i wr => ∃ k : Nat, k ≤ m ∧ i = .int .i64 k ∧ Hid (Owns elInt wr (w.heap.size + 1) 3 v (idsTo (fun j => riskF fs j == fi.risk) k)) ∧ Below w0.heap.size w0 wr) (fun _ i _ => m - (intOf i).toNat)
    case atStart => exact ⟨0, Nat.zero_le _, rfl, hoe, hbe⟩
    case round =>
      clear hbe hoe q1
      obtain ⟨k, hk, rfl, hown, hb⟩ := hrel
      have q1 := (hx0.below hb hx0.lt).cell 1
      simp at q1
      by_cases hlt : k < m
      · obtain ⟨f, hfk⟩ := get_of (k := k) hlf hlt
        have f3 := bl_cell hb (HC.out k f hfk 3 _ rfl)
        have fr' := bl_cell hb fr
        simp only [elFib] at f3
        have T0 : ∀ w', Cls wr w' → w'.cell? ⟨b, o + k * 4 + 3, none⟩ = some (.int .i64 f.risk) := fun _ h => h.cell f3
        have T1 : ∀ w', Cls wr w' → w'.cell? ⟨b, o + i * 4 + 3, none⟩ = some (.int .i64 fi.risk) := fun _ h => h.cell fr'
        have Q1 : ∀ w', Cls wr w' → w'.cell? ⟨w.heap.size, 1, none⟩ = some (.slice (some ⟨b, o, none⟩) m d) := fun _ h => h.cell q1
        have iz : (k : Int) < (m : Int) := by omega
        have iz2 : (i : Int) < (m : Int) := by omega
        have hp : Hid ((riskF fs k == fi.risk) = (f.risk == fi.risk)) := by unfold Hid; rw [riskF_of hfk]
        have hwz := hb.size
        have hll := idsTo_len (fun j => riskF fs j == fi.risk) k
        clear hfk f3 fr'
        go_wp2
        refine region_cls (by kernel_rfl) (by kernel_rfl) ?_
        repeat (first
          | ((with_reducible refine quiet_pos ?_ (fun K hK => ?_))
             · rfl
             apply Exists.intro
             refine ⟨fun w' hw' => ?_, ?_⟩
             · go_simp
               with_reducible rfl
             simp only [Act.put, List.setIfInBounds_toArray, List.set_cons_zero, List.set_cons_succ]
             refine hK _ ?_; clear hK K)
          | ((with_reducible refine quiet_neg ?_ (fun K hK => ?_))
             · rfl
             simp only [Act.put, List.setIfInBounds_toArray, List.set_cons_zero, List.set_cons_succ]
             refine hK _ ?_; clear hK K))
        with_reducible refine wpQuiet_nil ?_
        intro wz hwz'
        have hbZ := bl_then hb hwz'
        have hoZ : Hid (Owns elInt _ _ _ _ _) := hown.out.below hwz'
        have hzz := hwz'.size
        clear hown T0 T1 Q1 q1 hb
        cases g3 : (f.risk == fi.risk)
        · have HN : Hid (idsTo (fun j => riskF fs j == fi.risk) (k + 1) = idsTo (fun j => riskF fs j == fi.risk) k) := idsTo_no (hp.out.trans g3)
          have HO := hoZ
          rw [← HN.out] at HO
          clear hp hoZ
          go_wp2
          exact ⟨⟨k + 1, by omega, by go_num, HO, hbZ⟩, by simp [intOf]; omega⟩
        · have HN : Hid (idsTo (fun j => riskF fs j == fi.risk) (k + 1) = idsTo (fun j => riskF fs j == fi.risk) k ++ [(k : Int)]) := idsTo_yes (hp.out.trans g3)
          have hbG := bl_alloc hbZ (.cells #[.int .i64 k] 3)
          have hoG : Hid (Owns elInt _ _ _ _ _) := hoZ.out.below (bl_alloc (Below.refl _ _) (.cells #[.int .i64 k] 3))
          clear hp hoZ
          go_wp2_with (first
            | (at_builtin; refine wpList_append_own _ rfl _ _ 33 rfl (w.heap.size + 1) 3 i0 (.int .i64 0) 1 8 Try.underlying33 hi hz0 hz1 hz2 rfl (by decide) _ (idsTo (fun j => riskF fs j == fi.risk) k).length ((idsTo (fun j => riskF fs j == fi.risk) k).flatMap elInt.cells) rfl hoG.out ⟨_, 0, none⟩ 1 1 [.int .i64 k] rfl rfl (one_new _ _ _ (by simp)) (fun u hu => by simp at hu; subst hu; rfl) (by unfold maxLen; omega) (by omega) (by simp; omega) ?_)
            | go_in)
          intro v' w1 hown' hgrow _
          have HO : Hid (Owns elInt w1 (w.heap.size + 1) 3 v' (idsTo (fun j => riskF fs j == fi.risk) (k + 1))) := by unfold Hid; rw [HN.out]; exact Owns.appended hown'
          have hbN := bl_grown hbG hgrow (fun g hg => by have := (hoG.out.lies g hg).1; omega)
          clear hown' hgrow hoG hbG
          go_wp2
          go_roundw
          case rel => exact ⟨k + 1, by omega, by go_num, HO, hbN⟩
          case measure => simp [intOf]; omega
      · have hkm : k = m := by omega
        rw [hkm] at hown
        obtain ⟨Ao, co, rfl, _, _, _⟩ := hown.out.form
        clear hlt
        go_wp2
        go_ret
        exact ⟨⟨Ao, _, co⟩, rfl, by rw [H.out]; exact hown.out.base (by omega), hb0.trans (hb.mono (by omega))⟩
  · have H : Hid (groupL fs i = [(i : Int)]) := by unfold Hid groupL; rw [riskF_of hfi, g]; rfl
    clear hfi hc
    go_enter Try.func139, Try.ntmps139
    go_wp2_with fail
    go_ret
    exact ⟨⟨some ⟨w.heap.size + 1, 0, none⟩, 1, 1⟩, rfl, by rw [H.out]; exact Owns.of_blk (n := 1) (cap := 1) (cur := #[.int .i64 i]) (by have := Blk.new (w.alloc (.cells #[.slice A n c, .slice (some ⟨b, o, none⟩) m d] 27)) 3 #[.int .i64 i]; simpa using this) (Nat.le_succ _) rfl (Nat.le_refl _) rfl (by decide) (filled_int1 _), bl_alloc hb0 _⟩
end Go.Proofs.Ytfepilpllfiegaa
/- impl.groups: the risk groups of a network, walked. Conditions: none. -/
namespace Go.Proofs.Ytfepilpllfiegaa
open Go.RowKit
variable {n c m d : Nat} {A A' : Option Addr} {xs : List ByteArray} {fs : List Fib}
/-- The rows of the risks 1 .. t that some fiber bears. -/
def rkRow (fs : List Fib) (t : Nat) : List Int := idsTo (fun j => riskF fs j == ((t : Int) + 1)) fs.length
def rkTo (fs : List Fib) (t : Nat) : List (List Int) := ((List.range t).map (rkRow fs)).filter fun l => !l.isEmpty
theorem rkTo_zero (fs : List Fib) : rkTo fs 0 = [] := rfl
theorem rkTo_no {t : Nat} (h : rkRow fs t = []) : rkTo fs (t + 1) = rkTo fs t := by simp [rkTo, List.range_succ, List.filter_append, h]
theorem rkTo_yes {t : Nat} (h : rkRow fs t ≠ []) : rkTo fs (t + 1) = rkTo fs t ++ [rkRow fs t] := by simp [rkTo, List.range_succ, List.filter_append, h]
theorem rkTo_len (fs : List Fib) (t : Nat) : (rkTo fs t).length ≤ t := by
  unfold rkTo
  exact Nat.le_trans (List.length_filter_le _ _) (by simp)
/-- The rows of the fibers without a risk. -/
def zrTo (fs : List Fib) (k : Nat) : List (List Int) := (idsTo (fun j => riskF fs j == 0) k).map fun x => [x]
theorem zrTo_zero (fs : List Fib) : zrTo fs 0 = [] := rfl
theorem zrTo_no {k : Nat} (h : (riskF fs k == 0) = false) : zrTo fs (k + 1) = zrTo fs k := by unfold zrTo; rw [idsTo_no h]
theorem zrTo_yes {k : Nat} (h : (riskF fs k == 0) = true) : zrTo fs (k + 1) = zrTo fs k ++ [[(k : Int)]] := by unfold zrTo; rw [idsTo_yes h]; simp
theorem zrTo_len (fs : List Fib) (k : Nat) : (zrTo fs k).length ≤ k := by unfold zrTo; rw [List.length_map]; exact idsTo_len _ _
/-- All risk groups. -/
def groupsL (fs : List Fib) : List (List Int) := rkTo fs 9 ++ zrTo fs fs.length
set_option maxHeartbeats 2000000 in
set_option maxRecDepth 100000 in
theorem groups_any (w : World) (h : NetIs w A n c A' m d xs fs) :
    Calls Try.prog 86 #[.agg #[.slice A n c, .slice A' m d]] w fun e w' => ∃ s ss, e = .returned (slV s) ∧ OwnsSS w' w.heap.size (slV s) ss (groupsL fs) ∧ Below w.heap.size w w' := by
  obtain ⟨i0, hi, hz0, hz1, hz2⟩ := info_parts int_info
  obtain ⟨j0, hj, hy0, hy1, hy2⟩ := info_parts sl_info
  have hb0 := bl_alloc (Below.refl w.heap.size w) (.cells #[.slice A n c, .slice A' m d] 27)
  have hx0 : Blk (w.alloc (.cells #[.slice A n c, .slice A' m d] 27)) w.heap.size 27 #[.slice A n c, .slice A' m d] := Blk.new _ _ _
  have h0 := h.grow hb0
  have hlf := h.flen
  have hm := h.mle
  have hsz0 : (w.alloc (.cells #[.slice A n c, .slice A' m d] 27)).heap.size = w.heap.size + 1 := by simp
  have hbe : Below (w.alloc (.cells #[.slice A n c, .slice A' m d] 27)).heap.size (w.alloc (.cells #[.slice A n c, .slice A' m d] 27)) ((w.alloc (.cells #[.slice A n c, .slice A' m d] 27)).alloc (.cells #[] 33)) := bl_alloc (Below.refl _ _) _
  have hoe : Hid (OwnsSS ((w.alloc (.cells #[.slice A n c, .slice A' m d] 27)).alloc (.cells #[] 33)) (w.heap.size + 1) (.slice (some ⟨w.heap.size + 1, 0, none⟩) 0 0) [] (rkTo fs 0)) :=
    ⟨Owns.of_blk (E := elSl) (n := 0) (cap := 0) (cur := #[]) (by have := Blk.new (w.alloc (.cells #[.slice A n c, .slice A' m d] 27)) 33 #[]; simpa using this) (Nat.le_refl _) rfl (Nat.le_refl _) rfl (by decide) (Filled.zero _ _ _), rfl, fun i s r h1 => by simp at h1, fun i j s t g _ h1 => by simp at h1⟩
  go_enter Try.func86, Try.ntmps86
  go_wp2_with fail
  generalize hw0 : w.alloc (.cells #[.slice A n c, .slice A' m d] 27) = w0 at *
  go_loopw [3, 4] (fun v i wr => ∃ (t : Nat) (ss : List Sl), t ≤ 9 ∧ i = .int .i64 ((t : Int) + 1) ∧ Hid (OwnsSS wr (w.heap.size + 1) v ss (rkTo fs t)) ∧ Below w0.heap.size w0 wr) (fun _ i _ => 10 - (intOf i).toNat)
  case atStart => exact ⟨0, [], Nat.zero_le _, rfl, hoe, hbe⟩
  case round =>
    clear hbe hoe
    obtain ⟨t, ss, ht, rfl, hss, hb⟩ := hrel
    have q1 := (hx0.below hb hx0.lt).cell 1
    simp at q1
    have hwz := hb.size
    by_cases htl : t < 9
    · obtain ⟨wo, hwo⟩ : ∃ wo, wo = wr := ⟨_, rfl⟩
      subst hwo
      have hbi : Below wo.heap.size wo (wo.alloc (.cells #[] 3)) := bl_alloc (Below.refl _ _) _
      have hoi : Hid (Owns elInt (wo.alloc (.cells #[] 3)) wo.heap.size 3 (.slice (some ⟨wo.heap.size, 0, none⟩) 0 0) (idsTo (fun j => riskF fs j == ((t : Int) + 1)) 0)) :=
        Owns.of_blk (n := 0) (cap := 0) (cur := #[]) (Blk.new wo 3 #[]) (Nat.le_refl _) rfl (Nat.le_refl _) rfl (by decide) (Filled.zero _ _ _)
      have e9 : decide ((t : Int) + 1 ≤ 9) = true := decide_eq_true (by omega)
      have q2 := ((hx0.below hb hx0.lt).alloc (.cells #[] 3)).cell 1
      simp at q2
      go_wp2_with fail
      clear q1 q2
      go_loopw [5, 19] (fun v i wq => ∃ k : Nat, k ≤ m ∧ i = .int .i64 k ∧ Hid (Owns elInt wq wo.heap.size 3 v (idsTo (fun j => riskF fs j == ((t : Int) + 1)) k)) ∧ Below wo.heap.size wo wq) (fun _ i _ => m - (intOf i).toNat)
      case atStart => exact ⟨0, Nat.zero_le _, rfl, hoi, hbi⟩
      case round =>
        clear hbi hoi
        obtain ⟨k, hk, rfl, hown, hq⟩ := hrel
        have hbq := bl_then hb hq
        have zq := hq.size
        by_cases hlt : k < m
        · obtain ⟨b, o, rfl, _, hc⟩ := h0.fibs.at_ hlt
          obtain ⟨f, hfk⟩ := get_of (k := k) hlf hlt
          have f0 := bl_cell hbq (hc k f hfk 0 _ rfl)
          have f1 := bl_cell hbq (hc k f hfk 1 _ rfl)
          have f2 := bl_cell hbq (hc k f hfk 2 _ rfl)
          have f3 := bl_cell hbq (hc k f hfk 3 _ rfl)
          simp only [elFib, Nat.add_zero] at f0 f1 f2 f3
          have hp : Hid ((riskF fs k == ((t : Int) + 1)) = (f.risk == ((t : Int) + 1))) := by unfold Hid; rw [riskF_of hfk]
          have hbF := bl_alloc hq (.cells #[.int .i64 f.a, .int .i64 f.b, .int .i64 f.len, .int .i64 f.risk] 62)
          have hbF1 := bl_alloc (Below.refl wr.heap.size wr) (.cells #[.int .i64 f.a, .int .i64 f.b, .int .i64 f.len, .int .i64 f.risk] 62)
          have hoF : Hid (Owns elInt _ _ _ _ _) := hown.out.below hbF1
          have hll := idsTo_len (fun j => riskF fs j == ((t : Int) + 1)) k
          clear hc hfk hown hbF1
          cases g3 : (f.risk == ((t : Int) + 1))
          · have HN : Hid (idsTo (fun j => riskF fs j == ((t : Int) + 1)) (k + 1) = idsTo (fun j => riskF fs j == ((t : Int) + 1)) k) := idsTo_no (hp.out.trans g3)
            have HO := hoF
            rw [← HN.out] at HO
            clear hp hoF
            go_wp2
            exact ⟨⟨k + 1, by omega, by go_num, HO, hbF⟩, by simp [intOf]; omega⟩
          · have HN : Hid (idsTo (fun j => riskF fs j == ((t : Int) + 1)) (k + 1) = idsTo (fun j => riskF fs j == ((t : Int) + 1)) k ++ [(k : Int)]) := idsTo_yes (hp.out.trans g3)
            have hbG := bl_alloc hbF (.cells #[.int .i64 k] 3)
            have hoG : Hid (Owns elInt _ _ _ _ _) := hoF.out.below (bl_alloc (Below.refl _ _) (.cells #[.int .i64 k] 3))
            clear hp hoF
            go_wp2_with (first
              | (at_builtin; refine wpList_append_own _ rfl _ _ 33 rfl wo.heap.size 3 i0 (.int .i64 0) 1 8 Try.underlying33 hi hz0 hz1 hz2 rfl (by decide) _ (idsTo (fun j => riskF fs j == ((t : Int) + 1)) k).length ((idsTo (fun j => riskF fs j == ((t : Int) + 1)) k).flatMap elInt.cells) rfl hoG.out ⟨_, 0, none⟩ 1 1 [.int .i64 k] rfl rfl (one_new _ _ _ (by simp)) (fun u hu => by simp at hu; subst hu; rfl) (by unfold maxLen; omega) (by omega) (by simp; omega) ?_)
              | go_in)
            intro v' w1 hown' hgrow _
            have HO : Hid (Owns elInt w1 wo.heap.size 3 v' (idsTo (fun j => riskF fs j == ((t : Int) + 1)) (k + 1))) := by unfold Hid; rw [HN.out]; exact Owns.appended hown'
            have hbN := bl_grown hbG hgrow (fun g hg => (hoG.out.lies g hg).1)
            clear hown' hgrow hoG hbG
            go_wp2
            go_roundw
            case rel => first | exact ⟨k + 1, by omega, by go_num, HO, hbN⟩ | ((repeat apply Exists.intro); exact ⟨⟨k + 1, by omega, by go_num, HO, hbN⟩, rfl⟩)
            case measure => simp [intOf]; omega
        · have hkm : k = m := by omega
          rw [hkm] at hown
          have HRW : Hid (idsTo (fun j => riskF fs j == ((t : Int) + 1)) m = rkRow fs t) := by unfold Hid rkRow; rw [hlf]
          rw [HRW.out] at hown
          obtain ⟨Ao, co, rfl, _, _, _⟩ := hown.out.form
          obtain ⟨L, hL⟩ : ∃ L, L = (rkRow fs t).length := ⟨_, rfl⟩
          have HLL := hid hL
          rw [← hL] at hown ⊢
          have hsq := hid (hss.out.below hq)
          clear hlt
          by_cases hL0 : L = 0
          · have e0 : decide (0 < L) = false := by simp [hL0]
            have HT : Hid (rkTo fs (t + 1) = rkTo fs t) := rkTo_no (List.eq_nil_of_length_eq_zero (by rw [← hL, hL0]))
            have HS := hsq
            rw [← HT.out] at HS
            clear hL hL0 hsq hown hss
            go_wp2
            exact ⟨⟨t + 1, ss, by omega, by go_num, HS, hbq⟩, by simp [intOf]; omega⟩
          · have e0 : decide (0 < L) = true := by simp; omega
            have HT : Hid (rkTo fs (t + 1) = rkTo fs t ++ [rkRow fs t]) := rkTo_yes (fun e => hL0 (by rw [hL, e]; rfl))
            have hbG := bl_alloc hbq (.cells #[.slice Ao L co] 33)
            have hq2 := bl_alloc hq (.cells #[.slice Ao L co] 33)
            have hsG := hid (hsq.out.below (bl_alloc (Below.refl _ _) (.cells #[.slice Ao L co] 33)))
            have hr2 : Hid (Owns elInt _ _ _ (slV ⟨Ao, L, co⟩) _) := hown.out.below (bl_alloc (Below.refl _ _) (.cells #[.slice Ao L co] 33))
            have hsl : ss.length ≤ 9 := by have := hsG.out.2.1; have := rkTo_len fs t; omega
            clear hL hL0 hsq hown
            go_wp2_with (first
              | (at_builtin; refine wpList_append_own _ rfl _ _ 56 rfl (w.heap.size + 1) 33 j0 (.slice none 0 0) 1 24 Try.underlying56 hj hy0 hy1 hy2 rfl (by decide) _ ss.length (ss.flatMap elSl.cells) rfl hsG.out.1 ⟨_, 0, none⟩ 1 1 [.slice Ao L co] rfl rfl (one_new _ _ _ (by simp)) (fun u hu => by simp at hu; subst hu; rfl) (by unfold maxLen; omega) (by omega) (by simp; omega) ?_)
              | go_in)
            intro v' w1 hown' hgrow _
            have HP : Hid (OwnsSS w1 (w.heap.size + 1) v' (ss ++ [⟨Ao, L, co⟩]) (rkTo fs (t + 1))) := by
              unfold Hid; rw [HT.out]; exact hss.out.push (s0 := ⟨Ao, L, co⟩) hq2 (by omega) hr2.out (Owns.appended (E := elSl) hown') hgrow
            have hbN := bl_grown hbG hgrow (fun g hg => by have := (hsG.out.1.lies g hg).1; omega)
            clear hown' hgrow hsG hbG hr2 hq2 hss
            go_wp2
            exact ⟨⟨t + 1, _, by omega, by go_num, HP, hbN⟩, by simp [intOf]; omega⟩
    · have ht9 : t = 9 := by omega
      subst ht9
      have hs0 := hss
      rw [show rkTo fs 9 = rkTo fs 9 ++ zrTo fs 0 from by rw [zrTo_zero, List.append_nil]] at hs0
      clear hss
      go_wp2_with fail
      clear q1
      have hbs := hb
      obtain ⟨wo, hwo⟩ : ∃ wo, wo = wr := ⟨_, rfl⟩
      subst hwo
      go_loopw [3, 43] (fun v i wr => ∃ (k : Nat) (ss : List Sl), k ≤ m ∧ i = .int .i64 k ∧ Hid (OwnsSS wr (w.heap.size + 1) v ss (rkTo fs 9 ++ zrTo fs k)) ∧ Below w0.heap.size w0 wr) (fun _ i _ => m - (intOf i).toNat)
      case atStart => exact ⟨0, ss, Nat.zero_le _, rfl, hs0, hbs⟩
      case round =>
        clear hs0 hbs hb hwz
        obtain ⟨k, ss, hk, rfl, hss, hb⟩ := hrel
        have hwz := hb.size
        by_cases hlt : k < m
        · obtain ⟨b, o, rfl, _, hc⟩ := h0.fibs.at_ hlt
          obtain ⟨f, hfk⟩ := get_of (k := k) hlf hlt
          have f0 := bl_cell hb (hc k f hfk 0 _ rfl)
          have f1 := bl_cell hb (hc k f hfk 1 _ rfl)
          have f2 := bl_cell hb (hc k f hfk 2 _ rfl)
          have f3 := bl_cell hb (hc k f hfk 3 _ rfl)
          simp only [elFib, Nat.add_zero] at f0 f1 f2 f3
          have hp : Hid ((riskF fs k == 0) = (f.risk == 0)) := by unfold Hid; rw [riskF_of hfk]
          have hbF := bl_alloc hb (.cells #[.int .i64 f.a, .int .i64 f.b, .int .i64 f.len, .int .i64 f.risk] 62)
          have hbF1 := bl_alloc (Below.refl wr.heap.size wr) (.cells #[.int .i64 f.a, .int .i64 f.b, .int .i64 f.len, .int .i64 f.risk] 62)
          clear hc hfk
          cases g3 : (f.risk == 0)
          · have HN : Hid (zrTo fs (k + 1) = zrTo fs k) := zrTo_no (hp.out.trans g3)
            have HO := hid (hss.out.below hbF1)
            rw [← HN.out] at HO
            clear hp hss
            go_wp2
            exact ⟨⟨k + 1, ss, by omega, by go_num, HO, hbF⟩, by simp [intOf]; omega⟩
          · have HN : Hid (rkTo fs 9 ++ zrTo fs (k + 1) = (rkTo fs 9 ++ zrTo fs k) ++ [[(k : Int)]]) := by unfold Hid; rw [zrTo_yes (hp.out.trans g3), List.append_assoc]
            have hq1 := bl_alloc hbF1 (.cells #[.int .i64 k] 3)
            have hq2 := bl_alloc hq1 (.cells #[.slice (some ⟨wr.heap.size + 1, 0, none⟩) 1 1] 33)
            have hbG := bl_then hb hq2
            have hsG := hid (hss.out.below hq2)
            have hr2 : Hid (Owns elInt (((wr.alloc (.cells #[.int .i64 f.a, .int .i64 f.b, .int .i64 f.len, .int .i64 f.risk] 62)).alloc (.cells #[.int .i64 k] 3)).alloc (.cells #[.slice (some ⟨wr.heap.size + 1, 0, none⟩) 1 1] 33)) wr.heap.size 3 (slV ⟨some ⟨wr.heap.size + 1, 0, none⟩, 1, 1⟩) [(k : Int)]) :=
              (show Owns elInt ((wr.alloc (.cells #[.int .i64 f.a, .int .i64 f.b, .int .i64 f.len, .int .i64 f.risk] 62)).alloc (.cells #[.int .i64 k] 3)) wr.heap.size 3 (.slice (some ⟨wr.heap.size + 1, 0, none⟩) 1 1) [(k : Int)] from Owns.of_blk (n := 1) (cap := 1) (cur := #[.int .i64 k]) (by have := Blk.new (wr.alloc (.cells #[.int .i64 f.a, .int .i64 f.b, .int .i64 f.len, .int .i64 f.risk] 62)) 3 #[.int .i64 k]; simpa using this) (Nat.le_succ _) rfl (Nat.le_refl _) rfl (by decide) (filled_int1 _)).below (bl_alloc (Below.refl _ _) _)
            have hsl : ss.length ≤ 9 + k := by have := hsG.out.2.1; have := rkTo_len fs 9; have := zrTo_len fs k; simp at *; omega
            clear hp hq1 hbF hbF1
            go_wp2_with (first
              | (at_builtin; refine wpList_append_own _ rfl _ _ 56 rfl (w.heap.size + 1) 33 j0 (.slice none 0 0) 1 24 Try.underlying56 hj hy0 hy1 hy2 rfl (by decide) _ ss.length (ss.flatMap elSl.cells) rfl hsG.out.1 ⟨_, 0, none⟩ 1 1 [.slice (some ⟨wr.heap.size + 1, 0, none⟩) 1 1] rfl rfl (one_new _ _ _ (by simp)) (fun u hu => by simp at hu; subst hu; rfl) (by unfold maxLen; omega) (by omega) (by simp; omega) ?_)
              | go_in)
            intro v' w1 hown' hgrow _
            have HP : Hid (OwnsSS w1 (w.heap.size + 1) v' (ss ++ [⟨some ⟨wr.heap.size + 1, 0, none⟩, 1, 1⟩]) (rkTo fs 9 ++ zrTo fs (k + 1))) := by
              unfold Hid; rw [HN.out]; exact hss.out.push (s0 := ⟨some ⟨wr.heap.size + 1, 0, none⟩, 1, 1⟩) hq2 (by omega) hr2.out (Owns.appended (E := elSl) hown') hgrow
            have hbN := bl_grown hbG hgrow (fun g hg => by have := (hsG.out.1.lies g hg).1; omega)
            clear hown' hgrow hsG hbG hr2 hq2 hss
            go_wp2
            refine ⟨?_, by simp [intOf]; omega⟩
            first | exact ⟨k + 1, _, by omega, by go_num, HP, hbN⟩ | ((repeat apply Exists.intro); exact ⟨⟨k + 1, _, by omega, by go_num, HP, hbN⟩, rfl⟩)
        · have hkm : k = m := by omega
          rw [hkm] at hss
          have HG : Hid (groupsL fs = rkTo fs 9 ++ zrTo fs m) := by unfold Hid groupsL; rw [hlf]
          obtain ⟨Ao, co, rfl, _, _, _⟩ := hss.out.1.form
          clear hlt
          go_wp2
          go_ret
          exact ⟨⟨Ao, _, co⟩, ss, rfl, by rw [HG.out]; exact hss.out.base_ (by omega), hb0.trans (hb.mono (by omega))⟩
end Go.Proofs.Ytfepilpllfiegaa
/- impl.fibersAt walked. Conditions: none. -/
namespace Go.Proofs.Ytfepilpllfiegaa
open Go.RowKit
variable {n c m d : Nat} {A A' : Option Addr} {xs : List ByteArray} {fs : List Fib}
def touchesF (fs : List Fib) (v : Int) (j : Nat) : Bool := (fs.getD j ⟨0, 0, 0, 0⟩).a == v || (fs.getD j ⟨0, 0, 0, 0⟩).b == v
set_option maxHeartbeats 1000000 in
set_option maxRecDepth 100000 in
theorem fibersAt_any (x : Int) (w : World) (h : NetIs w A n c A' m d xs fs) :
    Calls Try.prog 72 #[.agg #[.slice A n c, .slice A' m d], .int .i64 x] w fun e w' => ∃ v, e = .returned v ∧ Owns elInt w' w.heap.size 3 v (idsTo (touchesF fs x) m) ∧ Below w.heap.size w w' := by
  obtain ⟨i0, hi, hz0, hz1, hz2⟩ := info_parts int_info
  have hb0 := bl_alloc (Below.refl w.heap.size w) (.cells #[.slice A n c, .slice A' m d] 27)
  have hx0 : Blk (w.alloc (.cells #[.slice A n c, .slice A' m d] 27)) w.heap.size 27 #[.slice A n c, .slice A' m d] := Blk.new _ _ _
  have h0 := h.grow hb0
  have q1 := hx0.cell 1
  simp at q1
  have hm := h.mle
  go_enter Try.func72, Try.ntmps72
  go_wp2
  have hbe : Below (w.alloc (.cells #[.slice A n c, .slice A' m d] 27)).heap.size (w.alloc (.cells #[.slice A n c, .slice A' m d] 27)) ((w.alloc (.cells #[.slice A n c, .slice A' m d] 27)).alloc (.cells #[] 3)) := bl_alloc (Below.refl _ _) _
  have hoe : Hid (Owns elInt ((w.alloc (.cells #[.slice A n c, .slice A' m d] 27)).alloc (.cells #[] 3)) (w.heap.size + 1) 3 (.slice (some ⟨w.heap.size + 1, 0, none⟩) 0 0) (idsTo (touchesF fs x) 0)) :=
    Owns.of_blk (n := 0) (cap := 0) (cur := #[]) (by have := Blk.new (w.alloc (.cells #[.slice A n c, .slice A' m d] 27)) 3 #[]; simpa using this) (Nat.le_refl _) rfl (Nat.le_refl _) rfl (by decide) (Filled.zero _ _ _)
  have hsz0 : (w.alloc (.cells #[.slice A n c, .slice A' m d] 27)).heap.size = w.heap.size + 1 := by simp
  generalize hw0 : w.alloc (.cells #[.slice A n c, .slice A' m d] 27) = w0 at *
  go_loopw [5, 12] (fun v i wr => ∃ k : Nat, k ≤ m ∧ i = .int .i64 k ∧ Hid (Owns elInt wr (w.heap.size + 1) 3 v (idsTo (touchesF fs x) k)) ∧ Below w0.heap.size w0 wr) (fun _ i _ => m - (intOf i).toNat)
  case atStart => exact ⟨0, Nat.zero_le _, rfl, hoe, hbe⟩
  case round =>
    clear hbe hoe
    obtain ⟨k, hk, rfl, hown, hb⟩ := hrel
    by_cases hlt : k < m
    · obtain ⟨b, o, rfl, _, hc⟩ := h0.fibs.at_ hlt
      obtain ⟨f, hfk⟩ := get_of (k := k) h0.flen hlt
      have f0 := bl_cell hb (hc k f hfk 0 _ rfl)
      have f1 := bl_cell hb (hc k f hfk 1 _ rfl)
      have f2 := bl_cell hb (hc k f hfk 2 _ rfl)
      have f3 := bl_cell hb (hc k f hfk 3 _ rfl)
      simp only [elFib, Nat.add_zero] at f0 f1 f2 f3
      clear hc
      have hp : Hid (touchesF fs x k = (f.a == x || f.b == x)) := by unfold Hid touchesF; rw [getD_of hfk]
      have hwz := hb.size
      have hbF := bl_alloc hb (.cells #[.int .i64 f.a, .int .i64 f.b, .int .i64 f.len, .int .i64 f.risk] 62)
      have hbG := bl_alloc hbF (.cells #[.int .i64 k] 3)
      have hoF : Hid (Owns elInt _ _ _ _ _) := hown.out.below (bl_alloc (Below.refl _ _) (.cells #[.int .i64 f.a, .int .i64 f.b, .int .i64 f.len, .int .i64 f.risk] 62))
      have hoG : Hid (Owns elInt _ _ _ _ _) := hoF.out.below (bl_alloc (Below.refl _ _) (.cells #[.int .i64 k] 3))
      have hll := idsTo_len (touchesF fs x) k
      clear hown hb
      by_cases hpp : touchesF fs x k = true
      · have HN : Hid (idsTo (touchesF fs x) (k + 1) = idsTo (touchesF fs x) k ++ [(k : Int)]) := idsTo_yes hpp
        rw [hp.out] at hpp
        clear hp hfk hoF hbF
        cases g1 : (f.a == x)
        · have g2 : (f.b == x) = true := by rw [g1] at hpp; simpa using hpp
          clear hpp
          go_wp2_with (first
            | (at_builtin; refine wpList_append_own _ rfl _ _ 33 rfl (w.heap.size + 1) 3 i0 (.int .i64 0) 1 8 Try.underlying33 hi hz0 hz1 hz2 rfl (by decide) _ (idsTo (touchesF fs x) k).length ((idsTo (touchesF fs x) k).flatMap elInt.cells) rfl hoG.out ⟨_, 0, none⟩ 1 1 [.int .i64 k] rfl rfl (one_new _ _ _ (by simp)) (fun u hu => by simp at hu; subst hu; rfl) (by unfold maxLen; omega) (by omega) (by simp; omega) ?_)
            | go_in)
          intro v' w1 hown' hgrow _
          have HO : Hid (Owns elInt w1 (w.heap.size + 1) 3 v' (idsTo (touchesF fs x) (k + 1))) := by unfold Hid; rw [HN.out]; exact Owns.appended hown'
          have hbN := bl_grown hbG hgrow (fun g hg => by have := (hoG.out.lies g hg).1; omega)
          clear hown' hgrow hoG hbG
          go_wp2
          go_roundw
          case rel => exact ⟨k + 1, by omega, by go_num, HO, hbN⟩
          case measure => simp [intOf]; omega
        · clear hpp
          go_wp2_with (first
            | (at_builtin; refine wpList_append_own _ rfl _ _ 33 rfl (w.heap.size + 1) 3 i0 (.int .i64 0) 1 8 Try.underlying33 hi hz0 hz1 hz2 rfl (by decide) _ (idsTo (touchesF fs x) k).length ((idsTo (touchesF fs x) k).flatMap elInt.cells) rfl hoG.out ⟨_, 0, none⟩ 1 1 [.int .i64 k] rfl rfl (one_new _ _ _ (by simp)) (fun u hu => by simp at hu; subst hu; rfl) (by unfold maxLen; omega) (by omega) (by simp; omega) ?_)
            | go_in)
          intro v' w1 hown' hgrow _
          have HO : Hid (Owns elInt w1 (w.heap.size + 1) 3 v' (idsTo (touchesF fs x) (k + 1))) := by unfold Hid; rw [HN.out]; exact Owns.appended hown'
          have hbN := bl_grown hbG hgrow (fun g hg => by have := (hoG.out.lies g hg).1; omega)
          clear hown' hgrow hoG hbG
          go_wp2
          go_roundw
          case rel => exact ⟨k + 1, by omega, by go_num, HO, hbN⟩
          case measure => simp [intOf]; omega
      · have hpn : touchesF fs x k = false := by simpa using hpp
        have HN : Hid (idsTo (touchesF fs x) (k + 1) = idsTo (touchesF fs x) k) := idsTo_no hpn
        rw [hp.out] at hpn
        obtain ⟨g1, g2⟩ := Bool.or_eq_false_iff.1 hpn
        have HO := hoF
        rw [← HN.out] at HO
        clear hp hfk hoF hoG hbG hpn hpp
        go_wp2
        exact ⟨⟨k + 1, by omega, by go_num, HO, hbF⟩, by simp [intOf]; omega⟩
    · have hkm : k = m := by omega
      rw [hkm] at hown
      clear hlt
      go_wp2
      go_ret
      exact ⟨_, rfl, hown.out.base (by omega), hb0.trans (hb.mono (by omega))⟩
end Go.Proofs.Ytfepilpllfiegaa
/- slices.IndexFunc and ContainsFunc over numbers, walked, at a closure that answers p. Conditions: none. -/
namespace Go.Proofs.Ytfepilpllfiegaa
open Go.RowKit
/-- None of the first k passes p. -/
def noneP {α : Type} (p : α → Bool) (l : List α) (k : Nat) : Prop := ∀ j x, j < k → l[j]? = some x → p x = false
theorem noneP_zero {α : Type} (p : α → Bool) (l : List α) : noneP p l 0 := fun j _ hj => by omega
theorem noneP_succ {α : Type} {p : α → Bool} {l : List α} {k : Nat} {x : α} (h : noneP p l k) (hx : l[k]? = some x) (hp : p x = false) : noneP p l (k + 1) := by
  intro j y hj hy
  rcases Nat.lt_succ_iff_lt_or_eq.1 hj with hlt | rfl
  · exact h j y hlt hy
  · rw [hx] at hy; injection hy with hy; subst hy; exact hp
/-- The index of the first element that passes p, or -1. -/
def findPF {α : Type} (p : α → Bool) : List α → Nat → Int
  | [], _ => -1
  | y :: l, k => if p y then (k : Int) else findPF p l (k + 1)
def findP {α : Type} (p : α → Bool) (l : List α) : Int := findPF p l 0
theorem findPF_at {α : Type} {p : α → Bool} : ∀ {l : List α} {k0 k : Nat} {x : α}, l[k]? = some x → p x = true → noneP p l k → findPF p l k0 = ((k0 + k : Nat) : Int) := by
  intro l
  induction l with
  | nil => intro k0 k x h; simp at h
  | cons y l ih =>
    intro k0 k x h hp hn
    unfold findPF
    cases k with
    | zero => simp at h; rw [h, if_pos hp]; rfl
    | succ k =>
      rw [if_neg (by rw [hn 0 y (Nat.succ_pos _) (by simp)]; decide)]
      rw [ih (k := k) (by simpa using h) hp (fun j z hj hz => hn (j + 1) z (by omega) (by simpa using hz))]
      congr 1; omega
theorem findP_at {α : Type} {p : α → Bool} {l : List α} {k : Nat} {x : α} (h : noneP p l k) (hx : l[k]? = some x) (hp : p x = true) : findP p l = k := by
  have := findPF_at (k0 := 0) hx hp h
  simpa [findP] using this
theorem findPF_neg {α : Type} {p : α → Bool} : ∀ {l : List α} {k0 : Nat}, (0 ≤ findPF p l k0 ↔ l.any p = true) ∧ -1 ≤ findPF p l k0 := by
  intro l
  induction l with
  | nil => intro k0; simp [findPF]
  | cons y l ih =>
    intro k0
    unfold findPF
    by_cases h : p y = true
    · rw [if_pos h]; simp [h]
    · rw [if_neg h]; simp only [List.any_cons]; rw [show p y = false by simpa using h]; simpa using ih
theorem findP_ge {α : Type} {p : α → Bool} {l : List α} : 0 ≤ findP p l ↔ l.any p = true := findPF_neg.1
theorem findP_none {α : Type} {p : α → Bool} {l : List α} {n : Nat} (hl : l.length = n) (h : noneP p l n) : findP p l = -1 := by
  have h1 := findPF_neg (p := p) (l := l) (k0 := 0)
  have h2 : ¬ (l.any p = true) := by
    intro ha
    obtain ⟨x, hx, hp⟩ := List.any_eq_true.1 ha
    obtain ⟨i, hi, e⟩ := List.mem_iff_getElem.1 hx
    have := h i x (by omega) (by rw [List.getElem?_eq_getElem hi, e])
    rw [this] at hp; cases hp
  unfold findP
  have := h1.2
  have h3 : ¬ (0 ≤ findPF p l 0) := fun h => h2 (h1.1.1 h)
  omega
section
variable {B n c : Nat} {A : Option Addr} {xs : List Int} {F : FuncId} {cap : Array Value}
set_option maxRecDepth 100000 in
theorem indexFuncI_any (p : Int → Bool) (w : World) (hA : Sees elInt w B A n xs) (hn : n ≤ 1048576)
    (hcall : ∀ args wr, (callFunc F args).run Try.prog wr = .ok (.enter F args) wr)
    (hF : ∀ x w', x ∈ xs → Cls w w' → Calls Try.prog F (#[.int .i64 x] ++ cap) w' fun e w2 => e = .returned (.bool (p x)) ∧ Below w'.heap.size w' w2) :
    Calls Try.prog 153 #[.slice A n c, .func (.func F) #[] cap] w fun e w' => e = .returned (.int .i64 (findP p xs)) ∧ Below w.heap.size w w' := by
  have HF := hid hF
  clear hF
  go_enter Try.func153, Try.ntmps153
  go_wp2
  go_loopw [8] (fun i wr => ∃ k : Nat, k ≤ n ∧ i = .int .i64 k ∧ Hid (noneP p xs k) ∧ Below w.heap.size w wr) (fun i _ => n - (intOf i).toNat)
  case atStart => exact ⟨0, Nat.zero_le _, rfl, noneP_zero _ _, Below.refl _ _⟩
  case round =>
    obtain ⟨k, hk, rfl, hno, hb⟩ := hrel
    by_cases hlt : k < n
    · obtain ⟨b, o, rfl, _, hc⟩ := hA.at_ hlt
      obtain ⟨x, hxk⟩ : ∃ x, xs[k]? = some x := ⟨xs[k]'(by rw [hA.len]; exact hlt), List.getElem?_eq_getElem _⟩
      have hcx := bl_cell hb (hc k x hxk 0 _ rfl)
      simp only [elInt, Nat.mul_one, Nat.add_zero] at hcx
      have HC := hid (HF.out x wr (List.mem_of_getElem? hxk) hb)
      clear hc
      go_wp2_with fail
      refine HC.out.mono ?_
      rintro e w' ⟨rfl, hb2⟩
      have hbb : Below w.heap.size w w' := bl_then hb hb2
      clear HC hcx hb hb2
      by_cases hp : p x = true
      · have HR := hid (findP_at hno.out hxk hp)
        clear hno hxk
        rw [hp]
        go_wp2_with fail
        go_ret
        exact ⟨by rw [HR.out]; rfl, hbb⟩
      · have hp' : p x = false := by simpa using hp
        have HR := hid (noneP_succ hno.out hxk hp')
        clear hno hxk
        rw [hp']
        go_wp2_with fail
        exact ⟨⟨k + 1, by omega, by go_num, HR, hbb⟩, by simp [intOf]; omega⟩
    · have HN := hid (findP_none (p := p) hA.len (by obtain rfl : k = n := (by omega); exact hno.out))
      clear hno
      go_wp2
      go_ret
      exact ⟨by rw [HN.out]; rfl, hb⟩
set_option maxRecDepth 100000 in
theorem containsFuncI_any (p : Int → Bool) (w : World) (hA : Sees elInt w B A n xs) (hn : n ≤ 1048576)
    (hcall : ∀ args wr, (callFunc F args).run Try.prog wr = .ok (.enter F args) wr)
    (hF : ∀ x w', x ∈ xs → Cls w w' → Calls Try.prog F (#[.int .i64 x] ++ cap) w' fun e w2 => e = .returned (.bool (p x)) ∧ Below w'.heap.size w' w2) :
    Calls Try.prog 120 #[.slice A n c, .func (.func F) #[] cap] w fun e w' => e = .returned (.bool (xs.any p)) ∧ Below w.heap.size w w' := by
  have HC := hid (indexFuncI_any (c := c) p w hA hn hcall hF)
  have H : Hid (decide (0 ≤ findP p xs) = xs.any p) := by
    unfold Hid
    cases g : xs.any p
    · exact decide_eq_false (fun h => by have := findP_ge.1 h; rw [g] at this; cases this)
    · exact decide_eq_true (findP_ge.2 g)
  clear hcall hF hA
  go_enter Try.func120, Try.ntmps120
  go_wp2_with fail
  refine HC.out.mono ?_
  rintro e w' ⟨rfl, hb⟩
  go_wp2_with fail
  go_ret
  exact ⟨by rw [← H.out]; rfl, hb⟩
end
end Go.Proofs.Ytfepilpllfiegaa
/- impl.isNode walked, at any world. Conditions: none. -/
namespace Go.Proofs.Ytfepilpllfiegaa
open Go.RowKit
variable {n c m d : Nat} {A A' : Option Addr} {xs : List ByteArray} {fs : List Fib}
set_option maxRecDepth 100000 in
theorem isNodeC (x : Int) (w : World) (g : Nat) (a a' : Value) (hn : a = .slice A n c) (hg : Blk w g 27 #[a, a']) (hle : n ≤ 1048576) :
    Calls Try.prog 121 #[.int .i64 x, .pointer (some ⟨g, 0, none⟩)] w fun e w' => e = .returned (.bool (!inB 0 ((n : Int) - 1) x)) ∧ Below w.heap.size w w' := by
  subst hn
  have q0 := hg.cell 0
  simp at q0
  go_enter Try.func121, Try.ntmps121
  go_wp2_with fail
  refine (within_any _ _ _ _).mono ?_
  rintro e w2 ⟨rfl, rfl⟩
  go_wp2_with fail
  go_ret
  exact ⟨rfl, Below.refl _ _⟩
/-- Every number of the list is a node's. -/
def nodesB (n : Nat) (vs : List Int) : Bool := !(vs.any fun x => !inB 0 ((n : Int) - 1) x)
set_option maxRecDepth 100000 in
theorem isNode_any {B k c' : Nat} {V : Option Addr} {vs : List Int} (w : World) (h : NetIs w A n c A' m d xs fs) (hv : Sees elInt w B V k vs) (hk : k ≤ 1048576) :
    Calls Try.prog 56 #[.agg #[.slice A n c, .slice A' m d], .slice V k c'] w fun e w' => e = .returned (.bool (goodB xs fs && nodesB n vs)) ∧ Below w.heap.size w w' := by
  have hb0 := bl_alloc (Below.refl w.heap.size w) (.cells #[.slice A n c, .slice A' m d] 27)
  have hx0 : Blk (w.alloc (.cells #[.slice A n c, .slice A' m d] 27)) w.heap.size 27 #[.slice A n c, .slice A' m d] := Blk.new _ _ _
  have h0 := h.grow hb0
  have hle := h.nle
  have hv0 := hv.grow hb0
  cases g : goodB xs fs
  · clear hv0
    go_enter Try.func56, Try.ntmps56
    go_wp2_with fail
    refine (validN _ h0).mono ?_
    rintro e w2 ⟨rfl, hb2⟩
    rw [g]
    go_wp2_with fail
    go_ret
    exact ⟨rfl, bl_then hb0 hb2⟩
  · go_enter Try.func56, Try.ntmps56
    go_wp2_with fail
    refine (validN _ h0).mono ?_
    rintro e w2 ⟨rfl, hb2⟩
    rw [g]
    have hx2 := hx0.below hb2 hx0.lt
    have hv2 := hv0.grow hb2
    clear hx0 hv0 hv
    go_wp2_with fail
    refine (containsFuncI_any (cap := #[.pointer (some ⟨w.heap.size, 0, none⟩)]) (fun x => !inB 0 ((n : Int) - 1) x) _ hv2 hk (fun _ _ => by rfl) (fun x w' _ hw' => isNodeC x w' w.heap.size _ _ rfl (hx2.below hw' hx2.lt) hle)).mono ?_
    rintro e w3 ⟨rfl, hb3⟩
    go_wp2_with fail
    go_ret
    exact ⟨rfl, bl_then (bl_then hb0 hb2) hb3⟩
end Go.Proofs.Ytfepilpllfiegaa
/- impl.FibersAt and spec.FibersAt walked. Conditions: none. -/
namespace Go.Proofs.Ytfepilpllfiegaa
open Go.RowKit
variable {n c m d : Nat} {A A' : Option Addr} {xs : List ByteArray} {fs : List Fib}
/-- What the reference asks of fiber j. -/
def endsF (fs : List Fib) (v : Int) (j : Nat) : Bool := decide (0 ≤ otherF (fs.getD j ⟨0, 0, 0, 0⟩) v)
theorem ends_eq {v : Int} (hg : goodB xs fs = true) {j : Nat} (hj : j < fs.length) : endsF fs v j = touchesF fs v j := by
  obtain ⟨f, hf⟩ := get_of (k := j) rfl hj
  have hb := goodB_fibB hg (List.mem_of_getElem? hf)
  unfold endsF touchesF
  rw [getD_of hf]
  unfold fibB at hb
  simp at hb
  unfold otherF
  by_cases h1 : v = f.a
  · rw [if_pos h1]; simp [h1]; omega
  · rw [if_neg h1]
    by_cases h2 : v = f.b
    · rw [if_pos h2]; simp [h2]; omega
    · rw [if_neg h2]
      have e1 : (f.a == v) = false := by simp; omega
      have e2 : (f.b == v) = false := by simp; omega
      rw [e1, e2]; rfl
def faB (xs : List ByteArray) (fs : List Fib) (v : Int) : Bool := goodB xs fs && inB 0 ((xs.length : Int) - 1) v
def faI (xs : List ByteArray) (fs : List Fib) (v : Int) : List Int := if faB xs fs v then idsTo (touchesF fs v) fs.length else []
theorem faI_ends {v : Int} (hg : goodB xs fs = true) (h : faB xs fs v = true) : faI xs fs v = idsTo (endsF fs v) fs.length := by
  unfold faI; rw [if_pos h]; exact idsTo_congr (fun j hj => (ends_eq hg hj).symm)
theorem faI_len (v : Int) : (faI xs fs v).length ≤ fs.length := by unfold faI; split; exact idsTo_len _ _; exact Nat.zero_le _
theorem nodesB_one (x : Int) : nodesB n [x] = inB 0 ((n : Int) - 1) x := by simp [nodesB]
theorem sees_one (w : World) (x : Int) (t : TypeId) : Sees elInt (w.alloc (.cells #[.int .i64 x] t)) (w.heap.size + 1) (some ⟨w.heap.size, 0, none⟩) 1 [x] := by
  refine ⟨rfl, .inr ⟨_, _, rfl, Nat.lt_succ_self _, fun k y hy j u hu => ?_⟩⟩
  match k, hy with
  | 0, hy =>
    simp at hy; subst hy
    match j, hu with
    | 0, hu => simp [elInt] at hu; subst hu; simp [elInt]
set_option maxHeartbeats 1000000 in
set_option maxRecDepth 100000 in
theorem specFibersAt (x : Int) (w : World) (h : NetIs w A n c A' m d xs fs) :
    Calls Try.prog 26 #[.agg #[.slice A n c, .slice A' m d], .int .i64 x] w fun e w' => ∃ v, e = .returned (.tuple #[v, .bool (faB xs fs x)]) ∧ Owns elInt w' w.heap.size 3 v (faI xs fs x) ∧ Below w.heap.size w w' := by
  obtain ⟨i0, hi, hz0, hz1, hz2⟩ := info_parts int_info
  have hb0 := bl_alloc (Below.refl w.heap.size w) (.cells #[.slice A n c, .slice A' m d] 27)
  have hx0 : Blk (w.alloc (.cells #[.slice A n c, .slice A' m d] 27)) w.heap.size 27 #[.slice A n c, .slice A' m d] := Blk.new _ _ _
  have h0 := h.grow hb0
  have hlx := h.xlen
  have hlf := h.flen
  have hm := h.mle
  have hn := h.nle
  have hbe : Below (w.alloc (.cells #[.slice A n c, .slice A' m d] 27)).heap.size (w.alloc (.cells #[.slice A n c, .slice A' m d] 27)) ((w.alloc (.cells #[.slice A n c, .slice A' m d] 27)).alloc (.cells #[] 3)) := bl_alloc (Below.refl _ _) _
  have hoe : Hid (Owns elInt ((w.alloc (.cells #[.slice A n c, .slice A' m d] 27)).alloc (.cells #[] 3)) (w.heap.size + 1) 3 (.slice (some ⟨w.heap.size + 1, 0, none⟩) 0 0) []) :=
    Owns.of_blk (n := 0) (cap := 0) (cur := #[]) (by have := Blk.new (w.alloc (.cells #[.slice A n c, .slice A' m d] 27)) 3 #[]; simpa using this) (Nat.le_refl _) rfl (Nat.le_refl _) rfl (by decide) (Filled.zero _ _ _)
  have hsz0 : (w.alloc (.cells #[.slice A n c, .slice A' m d] 27)).heap.size = w.heap.size + 1 := by simp
  have h1 := h0.grow hbe
  cases g : goodB xs fs
  · have H : Hid (faB xs fs x = false ∧ faI xs fs x = []) := by unfold Hid faI faB; rw [g]; exact ⟨rfl, rfl⟩
    clear hlx hlf
    go_enter Try.func26, Try.ntmps26
    go_wp2_with fail
    refine (goodN _ h1).mono ?_
    rintro e w2 ⟨rfl, hb2⟩
    rw [g]
    have hoe2 := hid (hoe.out.below hb2)
    clear hoe
    go_wp2_with fail
    go_ret2
    exact ⟨_, by rw [H.out.1]; rfl, by rw [H.out.2]; exact hoe2.out.base (by omega), bl_then (bl_alloc hb0 _) hb2⟩
  · cases g2 : inB 0 ((n : Int) - 1) x
    · have H : Hid (faB xs fs x = false ∧ faI xs fs x = []) := by unfold Hid faI faB; rw [g, hlx, g2]; exact ⟨rfl, rfl⟩
      clear hlx hlf
      go_enter Try.func26, Try.ntmps26
      go_wp2_with fail
      refine (goodN _ h1).mono ?_
      rintro e w2 ⟨rfl, hb2⟩
      rw [g]
      have hoe2 := hid (hoe.out.below hb2)
      have q0 := ((hx0.below hbe hx0.lt).below hb2 (by simp; omega)).cell 0
      simp at q0
      clear hoe
      go_wp2_with fail
      refine (l1In_any _ _ _ _).mono ?_
      rintro e w3 ⟨rfl, rfl⟩
      rw [g2]
      go_wp2_with fail
      go_ret2
      exact ⟨_, by rw [H.out.1]; rfl, by rw [H.out.2]; exact hoe2.out.base (by omega), bl_then (bl_alloc hb0 _) hb2⟩
    · have H : Hid (faB xs fs x = true ∧ faI xs fs x = idsTo (endsF fs x) m) := by
        have hh : faB xs fs x = true := by unfold faB; rw [g, hlx, g2]; rfl
        exact ⟨hh, by rw [faI_ends g hh, hlf]⟩
      clear hlx
      go_enter Try.func26, Try.ntmps26
      go_wp2_with fail
      refine (goodN _ h1).mono ?_
      rintro e w2 ⟨rfl, hb2⟩
      rw [g]
      have hoe2 : Hid (Owns elInt w2 (w.heap.size + 1) 3 (.slice (some ⟨w.heap.size + 1, 0, none⟩) 0 0) (idsTo (endsF fs x) 0)) := hid (hoe.out.below hb2)
      have q0 := ((hx0.below hbe hx0.lt).below hb2 (by simp; omega)).cell 0
      simp at q0
      clear hoe
      go_wp2_with fail
      refine (l1In_any _ _ _ _).mono ?_
      rintro e w3 ⟨rfl, rfl⟩
      rw [g2]
      have hbw := hbe.trans (hb2.mono (by simp))
      clear hbe hb2 q0 h1
      go_wp2_with fail
      generalize hw0 : w.alloc (.cells #[.slice A n c, .slice A' m d] 27) = w0 at *
      go_loopw [6, 7] (fun v i wr => ∃ k : Nat, k ≤ m ∧ i = .int .i64 k ∧ Hid (Owns elInt wr (w.heap.size + 1) 3 v (idsTo (endsF fs x) k)) ∧ Below w0.heap.size w0 wr) (fun _ i _ => m - (intOf i).toNat)
      case atStart => exact ⟨0, Nat.zero_le _, rfl, hoe2, hbw⟩
      case round =>
        clear hbw hoe2
        obtain ⟨k, hk, rfl, hown, hb⟩ := hrel
        have q0 := (hx0.below hb hx0.lt).cell 0
        have q1 := (hx0.below hb hx0.lt).cell 1
        simp at q0 q1
        by_cases hlt : k < m
        · obtain ⟨f, hfk⟩ := get_of (k := k) hlf hlt
          have hp : Hid (endsF fs x k = decide (0 ≤ otherF f x)) := by unfold Hid endsF; rw [getD_of hfk]
          have hwz := hb.size
          have HC := hid (l2Other_any (k : Int) x wr (h0.grow hb) (f := f) (by omega) (by omega) (by simpa using hfk))
          have hll := idsTo_len (endsF fs x) k
          clear hfk
          go_wp2_with fail
          refine HC.out.mono ?_
          rintro e w3 ⟨rfl, hb3⟩
          clear HC
          have hb4 := bl_then hb hb3
          have hoF : Hid (Owns elInt _ _ _ _ _) := hown.out.below hb3
          clear hown q0 q1
          have hx3 := hb4.size
          cases g1 : decide (0 ≤ otherF f x)
          · have HN : Hid (idsTo (endsF fs x) (k + 1) = idsTo (endsF fs x) k) := idsTo_no (hp.out.trans g1)
            have HO := hoF
            rw [← HN.out] at HO
            clear hp hoF
            go_wp2
            exact ⟨⟨k + 1, by omega, by go_num, HO, hb4⟩, by simp [intOf]; omega⟩
          · have HN : Hid (idsTo (endsF fs x) (k + 1) = idsTo (endsF fs x) k ++ [(k : Int)]) := idsTo_yes (hp.out.trans g1)
            have hbG := bl_alloc hb4 (.cells #[.int .i64 k] 3)
            have hoG : Hid (Owns elInt _ _ _ _ _) := hoF.out.below (bl_alloc (Below.refl _ _) (.cells #[.int .i64 k] 3))
            clear hp hoF
            go_wp2_with (first
            | (at_builtin; refine wpList_append_own _ rfl _ _ 33 rfl (w.heap.size + 1) 3 i0 (.int .i64 0) 1 8 Try.underlying33 hi hz0 hz1 hz2 rfl (by decide) _ (idsTo (endsF fs x) k).length ((idsTo (endsF fs x) k).flatMap elInt.cells) rfl hoG.out ⟨_, 0, none⟩ 1 1 [.int .i64 k] rfl rfl (one_new _ _ _ (by simp)) (fun u hu => by simp at hu; subst hu; rfl) (by unfold maxLen; omega) (by omega) (by simp; omega) ?_)
            | go_in)
            intro v' w1 hown' hgrow _
            have HO : Hid (Owns elInt w1 (w.heap.size + 1) 3 v' (idsTo (endsF fs x) (k + 1))) := by unfold Hid; rw [HN.out]; exact Owns.appended hown'
            have hbN := bl_grown hbG hgrow (fun g hg => by have := (hoG.out.lies g hg).1; omega)
            clear hown' hgrow hoG hbG
            go_wp2
            go_roundw
            case rel => exact ⟨k + 1, by omega, by go_num, HO, hbN⟩
            case measure => simp [intOf]; omega
        · have hkm : k = m := by omega
          rw [hkm] at hown
          clear hlt
          go_wp2
          go_ret2
          exact ⟨_, by rw [H.out.1]; rfl, by rw [H.out.2]; exact hown.out.base (by omega), hb0.trans (hb.mono (by omega))⟩
end Go.Proofs.Ytfepilpllfiegaa
/- Bridges, cut nodes, critical groups, in plain Lean. Conditions: none. -/
namespace Go.Proofs.Ytfepilpllfiegaa
open Go.RowKit
theorem Owns.splitg {α : Type} {E : El α} {w : World} {base n : Nat} {e : TypeId} {v : Value} {xs : List α} (h : Owns E w base e v xs) (hl : xs.length = n) (hn : 0 < n) : ∃ g c, v = .slice (some ⟨g, 0, none⟩) n c := by
  subst hl
  rcases Owns.cases h with ⟨_, h0⟩ | ⟨g, c, cur, hv, _⟩
  · rw [h0] at hn; simp at hn
  · exact ⟨g, c, hv⟩
section
variable {n : Nat} {xs : List ByteArray} {fs : List Fib} {l : List Int} {X Y : List Int} {s : Int}
/-- Fiber i is a bridge. -/
def brF (fs : List Fib) (n i : Nat) : Bool := !(valL (compL (goneF [(i : Int)]) fs n) (fibD fs i).a.toNat == valL (compL (goneF [(i : Int)]) fs n) (fibD fs i).b.toNat)
def brL (xs : List ByteArray) (fs : List Fib) : List Int := if goodB xs fs then idsTo (brF fs xs.length) fs.length else []
theorem brL_len : (brL xs fs).length ≤ 14 := by
  unfold brL
  cases g : goodB xs fs
  · simp
  · have h := goodB_bd g
    have h2 := idsTo_len (brF fs xs.length) fs.length
    simp; omega
theorem bit_one (i : Nat) : compL (fun j => (2 ^ i).testBit j) fs n = compL (goneF [(i : Int)]) fs n := compL_congr fun j _ => by
  rw [Nat.testBit_two_pow]
  unfold goneF
  rw [Bool.eq_iff_iff, hasB_iff, decide_eq_true_eq, List.mem_singleton]
  omega
/-- Two nodes that are told apart by Y and not by X, none of them s. -/
def sepP (X Y : List Int) (s : Int) (a b : Nat) : Bool := (!((a : Int) == s) && !((b : Int) == s)) && ((valL X a == valL X b) && !(valL Y a == valL Y b))
theorem sepP_symm {a b : Nat} : sepP X Y s a b = sepP X Y s b a := by
  unfold sepP
  rw [Bool.and_comm (!((a : Int) == s)), show (valL X a == valL X b) = (valL X b == valL X a) from Bool.beq_comm, show (valL Y a == valL Y b) = (valL Y b == valL Y a) from Bool.beq_comm]
def sepB (n : Nat) (X Y : List Int) (s : Int) : Bool := !(allB (fun a => allB (fun b => !sepP X Y s a b) a) n)
def splB (n : Nat) (X Y : List Int) (s : Int) : Bool := !(allB (fun a => allB (fun i => !sepP X Y s a (a + 1 + i)) (n - (a + 1))) n)
theorem splB_eq : splB n X Y s = sepB n X Y s := by
  unfold splB sepB
  congr 1
  rw [Bool.eq_iff_iff, allB_iff, allB_iff]
  constructor
  · intro h a ha
    rw [allB_iff]
    intro b hb
    have h1 : (!sepP X Y s b (b + 1 + (a - (b + 1)))) = true := allB_iff.1 (h b (by omega)) (a - (b + 1)) (by omega)
    rw [show b + 1 + (a - (b + 1)) = a by omega] at h1
    show (!sepP X Y s a b) = true
    rw [sepP_symm]; exact h1
  · intro h a ha
    rw [allB_iff]
    intro i hi
    have h1 : (!sepP X Y s (a + 1 + i) a) = true := allB_iff.1 (h (a + 1 + i) (by omega)) a (by omega)
    show (!sepP X Y s a (a + 1 + i)) = true
    rw [sepP_symm]; exact h1
theorem sepB_yes {a b : Nat} (ha : a < n) (hb : b < a) (h : sepP X Y s a b = true) : sepB n X Y s = true := by
  have h1 : allB (fun b => !sepP X Y s a b) a = false := allB_no hb (by show (!sepP X Y s a b) = false; rw [h]; rfl)
  unfold sepB
  rw [allB_no (p := fun a => allB (fun b => !sepP X Y s a b) a) ha h1]; rfl
theorem splB_yes {a b : Nat} (hb : b < n) (ha : a < b) (h : sepP X Y s a b = true) : splB n X Y s = true := by
  rw [splB_eq]; exact sepB_yes hb ha (by rw [sepP_symm]; exact h)
/-- A node whose loss parts others. -/
def cnF (fs : List Fib) (n v : Nat) : Bool := sepB n (compL (goneF []) fs n) (compL (goneF (idsTo (touchesF fs v) fs.length)) fs n) v
def cnL (xs : List ByteArray) (fs : List Fib) : List Int := if goodB xs fs then idsTo (cnF fs xs.length) xs.length else []
theorem cnL_len : (cnL xs fs).length ≤ 8 := by
  unfold cnL
  cases g : goodB xs fs
  · simp
  · have h := goodB_bd g
    have h2 := idsTo_len (cnF fs xs.length) xs.length
    simp; omega
/-- A group whose loss parts others. -/
def cgF (fs : List Fib) (n i : Nat) : Bool := sepB n (compL (goneF []) fs n) (compL (goneF ((groupsL fs).getD i [])) fs n) (-1)
def cgL (xs : List ByteArray) (fs : List Fib) : List Int := if goodB xs fs then idsTo (cgF fs xs.length) (groupsL fs).length else []
end
end Go.Proofs.Ytfepilpllfiegaa
