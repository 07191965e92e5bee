/- Lemmas and walks that the claim rests on, laid together. Conditions: none. -/
import Derived.Test.YtfepilpllfiegaaZ50d3726ca9e1
import Derived.Test.YtfepilpllfiegaaZ55d8a778231f
import Derived.Test.YtfepilpllfiegaaZba7846269eb2
import Derived.Test.YtfepilpllfiegaaZc3e33f13110d
import Derived.Test.YtfepilpllfiegaaZcd4e02bf0900
/- l4Search.put of the reference, walked. Conditions: none. By put.py. -/
namespace Go.Proofs.Ytfepilpllfiegaa
open Go.RowKit
/-- Three things as one. -/
theorem Led.fuse3 {w0 w : World} {a b c t : Thing} {R : List Thing} (h : Led w0 w (a :: b :: c :: R)) (hS : ∀ k, t.S k → a.S k ∨ b.S k ∨ c.S k) (his : t.is w) : Led w0 w (t :: R) := by
  refine ⟨h.bl, fun i u hu => ?_, fun i j u v hij hu hv k h1 h2 => ?_⟩
  · match i, hu with
    | 0, hu =>
      injection hu with hu; subst hu
      refine ⟨his, fun k hk => ?_⟩
      rcases hS k hk with e | e | e
      · exact (h.all 0 a rfl).2 k e
      · exact (h.all 1 b rfl).2 k e
      · exact (h.all 2 c rfl).2 k e
    | i + 1, hu => exact h.all (i + 3) u (by simpa using hu)
  · have key : ∀ (i : Nat) u, R[i]? = some u → ∀ k, t.S k → ¬ u.S k := fun i u hu k hk h2 => by
      rcases hS k hk with e | e | e
      · exact h.apart 0 (i + 3) a u (by omega) rfl (by simpa using hu) k e h2
      · exact h.apart 1 (i + 3) b u (by omega) rfl (by simpa using hu) k e h2
      · exact h.apart 2 (i + 3) c u (by omega) rfl (by simpa using hu) k e h2
    match i, j, hu, hv with
    | 0, 0, hu, hv => exact hij rfl
    | 0, j + 1, hu, hv =>
      injection hu with hu; subst hu
      exact key j v (by simpa using hv) k h1 h2
    | i + 1, 0, hu, hv =>
      injection hv with hv; subst hv
      exact key i u (by simpa using hu) k h2 h1
    | i + 1, j + 1, hu, hv => exact h.apart (i + 3) (j + 3) u v (by omega) (by simpa using hu) (by simpa using hv) k h1 h2
theorem Led.front {w0 w : World} {P R : List Thing} (h : Led w0 w (P ++ R)) (is : List Nat) (hn : is.Nodup) (he : is.all (fun i => decide (i < P.length)) = true) : Led w0 w ((is.filterMap fun i => P[i]?) ++ R) := by
  have hm : is.map (fun i => P[i]?) = (is.filterMap fun i => P[i]?).map some := by
    clear hn
    induction is with
    | nil => rfl
    | cons x is ih =>
      rw [List.all_cons, Bool.and_eq_true, decide_eq_true_eq] at he
      rw [List.map_cons, List.filterMap_cons, List.getElem?_eq_getElem he.1, ih he.2]
      rfl
  have hlen : (is.filterMap fun i => P[i]?).length = is.length := by have := congrArg List.length hm; simp at this; omega
  have hlt : ∀ i, i < is.length → is.getD i 0 < P.length := fun i hi => by
    have := List.all_eq_true.1 he (is.getD i 0) (by rw [List.getD_eq_getElem?_getD, List.getElem?_eq_getElem hi]; exact List.getElem_mem hi)
    exact of_decide_eq_true this
  refine h.reidx (fun i => if i < is.length then is.getD i 0 else i - is.length + P.length) (fun i j hij => ?_) (fun i t hi => ?_)
  · show (if i < is.length then is.getD i 0 else i - is.length + P.length) ≠ (if j < is.length then is.getD j 0 else j - is.length + P.length)
    split
    · rename_i h1
      split
      · rename_i h2
        intro e
        rw [List.getD_eq_getElem?_getD, List.getD_eq_getElem?_getD, List.getElem?_eq_getElem h1, List.getElem?_eq_getElem h2] at e
        have e2 : is[i] = is[j] := e
        exact hij ((List.getElem?_inj h1 hn).1 (by rw [List.getElem?_eq_getElem h1, List.getElem?_eq_getElem h2, e2]))
      · have := hlt i h1; omega
    · split
      · rename_i h2
        have := hlt j h2; omega
      · omega
  · rcases Nat.lt_or_ge i is.length with h1 | h1
    · rw [if_pos h1, List.getElem?_append_left (hlt i h1)]
      rw [List.getElem?_append_left (by omega)] at hi
      have h2 : (is.map (fun i => P[i]?))[i]? = some (some t) := by rw [hm, List.getElem?_map, hi]; rfl
      rw [List.getElem?_map, List.getElem?_eq_getElem h1] at h2
      injection h2 with h2
      rw [List.getD_eq_getElem?_getD, List.getElem?_eq_getElem h1]
      exact h2
    · rw [if_neg (by omega), List.getElem?_append_right (by omega), show i - is.length + P.length - P.length = i - is.length by omega]
      rw [List.getElem?_append_right (by omega), hlen] at hi
      exact hi
theorem putAt_map {α β : Type} (f : α → β) (l : List α) (p : Nat) (r : α) : (putAt l p r).map f = putAt (l.map f) p (f r) := by
  unfold putAt
  rw [List.map_append, List.map_cons, List.map_take, List.map_drop]
theorem putAt_get {α : Type} {l : List α} {p i : Nat} {r x : α} (hp : p ≤ l.length) (h : (putAt l p r)[i]? = some x) : (i < p ∧ l[i]? = some x) ∨ (i = p ∧ x = r) ∨ (p < i ∧ l[i - 1]? = some x) := by
  unfold putAt at h
  have hl : (l.take p).length = p := by rw [List.length_take]; omega
  rcases Nat.lt_trichotomy i p with h1 | h1 | h1
  · rw [List.getElem?_append_left (by omega), List.getElem?_take, if_pos h1] at h
    exact .inl ⟨h1, h⟩
  · rw [List.getElem?_append_right (by omega), hl, h1, Nat.sub_self] at h
    simp at h
    exact .inr (.inl ⟨h1, h.symm⟩)
  · rw [List.getElem?_append_right (by omega), hl] at h
    obtain ⟨d, hd⟩ : ∃ d, i - p = d + 1 := ⟨i - p - 1, by omega⟩
    rw [hd, List.getElem?_cons_succ, List.getElem?_drop] at h
    exact .inr (.inr ⟨h1, by rw [show i - 1 = p + d by omega]; exact h⟩)
/-- A new row that holds the old routes and one more. -/
theorem Led.relist {w0 w : World} {base b b2 : Nat} {V V2 : Value} {ss : List (Int × Sl)} {rows : List (Int × List Int)} {s0 : Int × Sl} {r0 : Int × List Int} {p : Nat} {R : List Thing} (h : Led w0 w (tOwns elRt b2 35 V2 (putAt ss p s0) :: tOwns elInt b 3 (slV s0.2) r0.2 :: tRS base V ss rows :: R)) (hp : p ≤ ss.length) (h0 : s0.1 = r0.1) (hb : base ≤ b) (hb2 : base ≤ b2) :
    Led w0 w (tRS base V2 (putAt ss p s0) (putAt rows p r0) :: R) := by
  have hO : OwnsRS w base V ss rows := h.get 2 rfl
  have hN : Owns elRt w b2 35 V2 (putAt ss p s0) := h.get 0 rfl
  have hR : Owns elInt w b 3 (slV s0.2) r0.2 := h.get 1 rfl
  have ap : ∀ (i : Nat) s g, ss[i]? = some s → (slV s.2).ownBlock = some g → ¬ (slV s0.2).ownBlock = some g := fun i s g hs hg e => h.apart 2 1 _ _ (by decide) rfl rfl g (.inr ⟨i, s, hs, hg⟩) e
  refine h.fuse3 (fun k hk => ?_) ⟨hN.base hb2, by rw [putAt_len, putAt_len, hO.2.1], fun i s r h1 h2 => ?_, fun i j s t g hij h1 h2 h3 h4 => ?_⟩
  · rcases hk with hk | ⟨i, s, hs, hk⟩
    · exact .inl hk
    · rcases putAt_get hp hs with ⟨_, e⟩ | ⟨_, e⟩ | ⟨_, e⟩
      · exact .inr (.inr (.inr ⟨i, s, e, hk⟩))
      · subst e; exact .inr (.inl hk)
      · exact .inr (.inr (.inr ⟨i - 1, s, e, hk⟩))
  · have hp2 : p ≤ rows.length := by rw [← hO.2.1]; exact hp
    rcases putAt_get hp h1 with ⟨a1, e⟩ | ⟨a1, e⟩ | ⟨a1, e⟩
    · rcases putAt_get hp2 h2 with ⟨_, e2⟩ | ⟨a2, _⟩ | ⟨a2, _⟩
      · exact hO.2.2.1 i s r e e2
      · omega
      · omega
    · rcases putAt_get hp2 h2 with ⟨a2, _⟩ | ⟨_, e2⟩ | ⟨a2, _⟩
      · omega
      · subst e; subst e2; exact ⟨h0, hR.base hb⟩
      · omega
    · rcases putAt_get hp2 h2 with ⟨a2, _⟩ | ⟨a2, _⟩ | ⟨_, e2⟩
      · omega
      · omega
      · exact hO.2.2.1 (i - 1) s r e e2
  · rcases putAt_get hp h1 with ⟨a1, e⟩ | ⟨a1, e⟩ | ⟨a1, e⟩
    · rcases putAt_get hp h2 with ⟨a2, e2⟩ | ⟨a2, e2⟩ | ⟨a2, e2⟩
      · exact hO.2.2.2 i j s t g hij e e2 h3 h4
      · subst e2; exact ap i s g e h3 h4
      · exact hO.2.2.2 i (j - 1) s t g (by omega) e e2 h3 h4
    · rcases putAt_get hp h2 with ⟨a2, e2⟩ | ⟨a2, e2⟩ | ⟨a2, e2⟩
      · omega
      · omega
      · subst e; exact ap (j - 1) t g e2 h4 h3
    · rcases putAt_get hp h2 with ⟨a2, e2⟩ | ⟨a2, e2⟩ | ⟨a2, e2⟩
      · omega
      · omega
      · exact hO.2.2.2 (i - 1) (j - 1) s t g (by omega) e e2 h3 h4
theorem Led.seesRS {w0 w : World} {L : List Thing} {base n c : Nat} {A : Option Addr} {ss : List (Int × Sl)} {rows : List (Int × List Int)} (h : Led w0 w L) (i : Nat) (hi : L[i]? = some (tRS base (.slice A n c) ss rows)) : Sees elRt w w.heap.size A n ss := by
  have h1 : OwnsRS w base _ ss rows := h.get i hi
  have h2 := h1.sees.1
  rw [rs_n h i hi] at h2
  exact h2
theorem Sees.backR {α : Type} {E : El α} {w : World} {B b o n k : Nat} {l : List α} (h : Sees E w B (some ⟨b, o, none⟩) n l) (hk : k ≤ n) : Sees E w B (some ⟨b, o + k * E.sz, none⟩) (n - k) (l.drop k) := by
  refine ⟨by rw [List.length_drop, h.1], ?_⟩
  rcases h.2 with h0 | ⟨b', o', e, hb, hc⟩
  · exact .inl (by omega)
  · injection e with e
    injection e with e1 e2
    subst e1 e2
    refine .inr ⟨b, _, rfl, hb, fun j x hx i u hu => ?_⟩
    rw [List.getElem?_drop] at hx
    have h1 := hc (k + j) x hx i u hu
    have e : o + (k + j) * E.sz + i = o + k * E.sz + j * E.sz + i := by rw [Nat.add_mul]; omega
    rw [← e]; exact h1
theorem Sees.backZ {α : Type} {E : El α} {w : World} {B n k : Nat} {A A2 : Option Addr} {l : List α} (h : Sees E w B A n l) (hk : n - k = 0) : Sees E w B A2 0 (l.drop k) :=
  ⟨by rw [List.length_drop, h.1, hk], .inl rfl⟩
theorem sees_rt {w : World} {g : Nat} {s : Int} {B : Option Addr} {k e : Nat} (h : Blk w g 35 #[.int .i64 s, .slice B k e]) : Sees elRt w w.heap.size (some ⟨g, 0, none⟩) 1 [(s, (⟨B, k, e⟩ : Sl))] := by
  refine ⟨rfl, .inr ⟨g, 0, rfl, h.lt, fun j y hy i u hu => ?_⟩⟩
  have hj : j = 0 := by have := (List.getElem?_eq_some_iff.1 hy).1; simp at this; omega
  subst hj
  simp at hy; subst hy
  have hu' : [Value.int .i64 s, .slice B k e][i]? = some u := hu
  show w.cell? ⟨g, 0 + 0 * 2 + i, none⟩ = some u
  rw [show 0 + 0 * 2 + i = i by omega, h.cell]
  simpa using hu'
section
variable {w0 : World} {n c m d gx : Nat} {A A' : Option Addr} {xs : List ByteArray} {fs : List Fib} {s to : Nat}
def srX (A : Option Addr) (n c : Nat) (A' : Option Addr) (m d to : Nat) (V : Value) : Array Value := #[.slice A n c, .slice A' m d, .int .i64 (to : Int), V]
/-- The boxes of put stand. -/
def ptS (w0 : World) (gx gr : Nat) (A : Option Addr) (n c : Nat) (A' : Option Addr) (m d to s : Nat) (V : Value) (B : Option Addr) (k e : Nat) (w' : World) : Prop := Led w0 w' [tBlk gr 35 #[.int .i64 (s : Int), .slice B k e], tBlk gx 133 (srX A n c A' m d to V)]
theorem ptS_of {w : World} {L : List Thing} {gr k e : Nat} {V : Value} {B : Option Addr} (h : Led w0 w L) (i j : Nat) (hi : L[i]? = some (tBlk gr 35 #[.int .i64 (s : Int), .slice B k e])) (hj : L[j]? = some (tBlk gx 133 (srX A n c A' m d to V))) (hij : i ≠ j) : ptS w0 gx gr A n c A' m d to s V B k e w :=
  h.reidx (fun q => if q = 0 then i else if q = 1 then j else q + i + j) (fun p q hpq => by
    show (if p = 0 then i else if p = 1 then j else p + i + j) ≠ (if q = 0 then i else if q = 1 then j else q + i + j)
    repeat' split
    all_goals omega) (fun q t hq => by
    match q, hq with
    | 0, hq => injection hq with hq; subst hq; exact hi
    | 1, hq => injection hq with hq; subst hq; exact hj
    | q + 2, hq => simp at hq)
theorem mem_ptS {w : World} {gr k e : Nat} {V : Value} {B : Option Addr} {x y : Thing} {R : List Thing} (h : Led w0 w (tBlk gr 35 #[.int .i64 (s : Int), .slice B k e] :: x :: y :: tBlk gx 133 (srX A n c A' m d to V) :: R)) : ptS w0 gx gr A n c A' m d to s V B k e w :=
  h.reidx (fun i => if i = 0 then 0 else i + 2) (fun i j hij => by
    show (if i = 0 then 0 else i + 2) ≠ (if j = 0 then 0 else j + 2)
    repeat' split
    all_goals omega) (fun i t hi => by
    match i, hi with
    | 0, hi => exact hi
    | 1, hi => exact hi
    | i + 2, hi => simp at hi)
set_option maxHeartbeats 8000000 in
set_option maxRecDepth 100000 in
theorem put_any (hn : NetIs w0 A n c A' m d xs fs) (hG : goodB xs fs = true) (hs8 : s ≤ 1048576) {l : List (List Int)} {ids : List Int} {V : Value} {ss : List (Int × Sl)} {R : List Thing} {B : Option Addr} {e b : Nat} {w : World} (hids : ids.length ≤ 1048576 ∧ ∀ x ∈ ids, 0 ≤ x ∧ x < fs.length) (hll : l.length ≤ 1048576) (hl : ∀ r ∈ l, r.length ≤ 1048576 ∧ ∀ x ∈ r, 0 ≤ x ∧ x < fs.length) (hbb : w0.heap.size ≤ b)
    (h : Led w0 w (tOwns elInt b 3 (.slice B ids.length e) ids :: tRS w0.heap.size V ss (l.map fun r => ((s : Int), r)) :: tBlk gx 133 (srX A n c A' m d to V) :: R)) :
    Calls Try.prog 156 #[.pointer (some ⟨gx, 0, none⟩), .agg #[.int .i64 (s : Int), .slice B ids.length e]] w fun e' w' => e' = .returned (.tuple #[]) ∧
      ∃ V' ss', Led w0 w' (tRS w0.heap.size V' ss' ((insR fs (s : Int) l ids).map fun r => ((s : Int), r)) :: tBlk gx 133 (srX A n c A' m d to V') :: R) := by
  obtain ⟨he, hn0, hn8, hm14⟩ := good_parts hn hG
  have hO : OwnsRS w w0.heap.size V ss (l.map fun r => ((s : Int), r)) := h.get 1 rfl
  obtain ⟨AV, cV, hV, hcV, _, hSV⟩ := hO.1.form
  have hsl : ss.length = l.length := by rw [hO.2.1, List.length_map]
  rw [hsl] at hV hcV hSV
  subst hV
  have H0 := hid (h.blk_ w.heap.size rfl 35 #[.int .i64 (s : Int), .slice B ids.length e])
  have HN := hid hn
  have HG := hid hG
  have HSV := hid hSV
  have HSL := hid hsl
  have HIDS := hid hids.2
  have HL := hid hl
  have hi1 := hids.1
  have HO := hid hO
  clear h hn hO hSV hsl hids hl he hG
  unfold srX at H0
  have p3 := H0.out.cell 3 3 rfl rfl
  go_enter Try.func156, Try.ntmps156
  go_wp2_with fail
  clear p3
  go_loopw [4] (fun i wr => ∃ p : Nat, p ≤ l.length ∧ i = .int .i64 p ∧ Hid (plcR fs (s : Int) l ids p = plcR fs (s : Int) l ids l.length) ∧ Hid (Led w0 wr (tBlk w.heap.size 35 #[.int .i64 (s : Int), .slice B ids.length e] :: tOwns elInt b 3 (.slice B ids.length e) ids :: tRS w0.heap.size (.slice AV l.length cV) ss (l.map fun r => ((s : Int), r)) :: tBlk gx 133 #[.slice A n c, .slice A' m d, .int .i64 (to : Int), .slice AV l.length cV] :: R))) (fun i _ => (intOf i).toNat)
  case atStart => exact ⟨l.length, Nat.le_refl _, rfl, rfl, H0⟩
  case round =>
    clear H0 HSV HO
    obtain ⟨p, hp, rfl, HP, HS⟩ := hrel
    have HQ : Hid (∀ w', Cls wr w' → Sees elRt w' w'.heap.size AV l.length ss) := fun w' h => (HS.out.step h).seesRS 2 rfl
    have C0 : ∀ w', Cls wr w' → w'.cell? ⟨w.heap.size, 0, none⟩ = some (.int .i64 (s : Int)) := fun _ h => h.cell (HS.out.cell 0 0 rfl rfl)
    have C1 : ∀ w', Cls wr w' → w'.cell? ⟨w.heap.size, 1, none⟩ = some (.slice B ids.length e) := fun _ h => h.cell (HS.out.cell 0 1 rfl rfl)
    have C2 : ∀ w', Cls wr w' → w'.cell? ⟨gx, 0, none⟩ = some (.slice A n c) := fun _ h => h.cell (HS.out.cell 3 0 rfl rfl)
    have C3 : ∀ w', Cls wr w' → w'.cell? ⟨gx, 1, none⟩ = some (.slice A' m d) := fun _ h => h.cell (HS.out.cell 3 1 rfl rfl)
    have C4 : ∀ w', Cls wr w' → w'.cell? ⟨gx, 3, none⟩ = some (.slice AV l.length cV) := fun _ h => h.cell (HS.out.cell 3 3 rfl rfl)
    rcases Nat.eq_zero_or_pos p with hp0 | hp0
    · subst hp0
      have HPL : Hid (plcR fs (s : Int) l ids l.length = 0) := by unfold Hid; rw [← HP.out]; rfl
      go_wp2_with fail
      refine region_cls (by kernel_rfl) (by kernel_rfl) ?_
      repeat (first
        | ((with_reducible refine quiet_pos ?_ (fun K hK => ?_))
           · rfl
           apply Exists.intro
           refine ⟨fun w' hw' => ?_, ?_⟩
           · go_simp
             with_reducible rfl
           simp only [Act.put, List.setIfInBounds_toArray, List.set_cons_zero, List.set_cons_succ]
           refine hK _ ?_; clear hK K)
        | ((with_reducible refine quiet_neg ?_ (fun K hK => ?_))
           · rfl
           simp only [Act.put, List.setIfInBounds_toArray, List.set_cons_zero, List.set_cons_succ]
           refine hK _ ?_; clear hK K))
      with_reducible refine wpQuiet_nil ?_
      intro wz hwz'
      have hs4 := HS.out.step hwz'
      have HS4 := hid hs4
      clear hs4 hwz' C0 C1 C2 C3 C4 HS
      go_wp2_with fail
      revert wz
      intro wq HS4
      have HP4 : Hid (0 ≤ l.length) := Nat.zero_le _
      have HPS : Hid (0 ≤ ss.length) := Nat.zero_le _
      have HT : Hid ((ss.take 0).length = 0) := rfl
      have HPU : Hid (putAt ss 0 ((s : Int), (⟨B, ids.length, e⟩ : Sl)) = ss.take 0 ++ [((s : Int), (⟨B, ids.length, e⟩ : Sl))] ++ ss.drop 0) := rfl
      have hbz := Below.refl 0 wq
      obtain ⟨i0, hi, hz0, hz1, hz2⟩ := info_parts rt_info
      have E0 : ∀ w', ptS w0 gx w.heap.size A n c A' m d to s (.slice AV l.length cV) B ids.length e w' → w'.cell? ⟨w.heap.size, 0, none⟩ = some (.int .i64 (s : Int)) := fun _ h => Led.cell h 0 0 rfl rfl
      have E1 : ∀ w', ptS w0 gx w.heap.size A n c A' m d to s (.slice AV l.length cV) B ids.length e w' → w'.cell? ⟨w.heap.size, 1, none⟩ = some (.slice B ids.length e) := fun _ h => Led.cell h 0 1 rfl rfl
      have E2 : ∀ w', ptS w0 gx w.heap.size A n c A' m d to s (.slice AV l.length cV) B ids.length e w' → w'.cell? ⟨gx, 3, none⟩ = some (.slice AV l.length cV) := fun _ h => Led.cell h 1 3 rfl rfl
      have HM := hid (mem_ptS (HS4.out.step (Cls.drew wq)))
      refine wp_region_heldX 21 (ptS w0 gx w.heap.size A n c A' m d to s (.slice AV l.length cV) B ids.length e) (by kernel_rfl) (HM.out) (fun hHeld => ?_)
      refine wpAnyX_take (i := 0) (oi := _) (v := ?_) rfl (by kernel_rfl) (by kernel_rfl) (by kernel_rfl) (by kernel_rfl) (fun _ _ _ h => h) (Or.inl ⟨by rfl, ?_⟩) (by assumption) ?_
      rotate_left
      · intro w hSw; go_simp; with_reducible rfl
      simp only [Act.put, List.getElem_toArray, List.getElem_cons_zero, List.setIfInBounds_toArray, List.set_cons_zero, List.set_cons_succ]
      refine wpAnyX_take (i := 2) (oi := _) (v := ?_) rfl (by kernel_rfl) (by kernel_rfl) (by kernel_rfl) (by kernel_rfl) (fun _ _ _ h => h) (Or.inl ⟨by rfl, ?_⟩) (by assumption) ?_
      rotate_left
      · intro w hSw; go_simp; with_reducible rfl
      simp only [Act.put, List.getElem_toArray, List.getElem_cons_zero, List.getElem_cons_succ, List.setIfInBounds_toArray, List.set_cons_zero, List.set_cons_succ]
      refine wpAnyX_take (i := 3) (oi := _) (v := ?_) rfl (by kernel_rfl) (by kernel_rfl) (by kernel_rfl) (by kernel_rfl) (fun _ _ _ h => h) (Or.inl ⟨by rfl, ?_⟩) (by assumption) ?_
      rotate_left
      · intro w hSw; go_simp; with_reducible rfl
      simp only [Act.put, List.getElem_toArray, List.getElem_cons_zero, List.getElem_cons_succ, List.setIfInBounds_toArray, List.set_cons_zero, List.set_cons_succ]
      refine wpAnyX_take (i := 4) (oi := _) (v := ?_) rfl (by kernel_rfl) (by kernel_rfl) (by kernel_rfl) (by kernel_rfl) (fun _ _ _ h => h) (Or.inl ⟨by rfl, ?_⟩) (by assumption) ?_
      rotate_left
      · intro w hSw; go_simp; with_reducible rfl
      simp only [Act.put, List.getElem_toArray, List.getElem_cons_zero, List.getElem_cons_succ, List.setIfInBounds_toArray, List.set_cons_zero, List.set_cons_succ]
      refine wpAnyX_take (i := 5) (oi := _) (v := ?_) rfl (by kernel_rfl) (by kernel_rfl) (by kernel_rfl) (by kernel_rfl) (fun _ _ _ h => h) (Or.inl ⟨by rfl, ?_⟩) (by assumption) ?_
      rotate_left
      · intro w hSw; go_simp; with_reducible rfl
      simp only [Act.put, List.getElem_toArray, List.getElem_cons_zero, List.getElem_cons_succ, List.setIfInBounds_toArray, List.set_cons_zero, List.set_cons_succ]
      refine wpAnyX_take (i := 6) (oi := _) (v := ?_) rfl (by kernel_rfl) (by kernel_rfl) (by kernel_rfl) (by kernel_rfl) (fun _ _ _ h => h) (Or.inl ⟨by rfl, ?_⟩) (by assumption) ?_
      rotate_left
      · intro w hSw; go_simp; with_reducible rfl
      simp only [Act.put, List.getElem_toArray, List.getElem_cons_zero, List.getElem_cons_succ, List.setIfInBounds_toArray, List.set_cons_zero, List.set_cons_succ]
      refine wpAnyX_take (i := 7) (oi := _) (v := ?_) rfl (by kernel_rfl) (by kernel_rfl) (by kernel_rfl) (by kernel_rfl) (fun _ _ _ h => h) (Or.inl ⟨by rfl, ?_⟩) (by assumption) ?_
      rotate_left
      · intro w hSw; go_simp; with_reducible rfl
      simp only [Act.put, List.getElem_toArray, List.getElem_cons_zero, List.getElem_cons_succ, List.setIfInBounds_toArray, List.set_cons_zero, List.set_cons_succ]
      refine wpAnyX_take (i := 9) (oi := _) (v := ?_) rfl (by kernel_rfl) (by kernel_rfl) (by kernel_rfl) (by kernel_rfl) (fun _ _ _ h => h) (Or.inl ⟨by rfl, ?_⟩) (by assumption) ?_
      rotate_left
      · intro w hSw; go_simp; with_reducible rfl
      simp only [Act.put, List.getElem_toArray, List.getElem_cons_zero, List.getElem_cons_succ, List.setIfInBounds_toArray, List.set_cons_zero, List.set_cons_succ]
      refine wpAnyX_take (i := 12) (oi := _) (v := ?_) rfl (by kernel_rfl) (by kernel_rfl) (by kernel_rfl) (by kernel_rfl) (fun _ _ _ h => h) (Or.inl ⟨by rfl, ?_⟩) (by assumption) ?_
      rotate_left
      · intro w hSw; go_simp; with_reducible rfl
      simp only [Act.put, List.getElem_toArray, List.getElem_cons_zero, List.getElem_cons_succ, List.setIfInBounds_toArray, List.set_cons_zero, List.set_cons_succ]
      refine wpAnyX_take (i := 13) (oi := _) (v := ?_) rfl (by kernel_rfl) (by kernel_rfl) (by kernel_rfl) (by kernel_rfl) (fun _ _ _ h => h) (Or.inl ⟨by rfl, ?_⟩) (by assumption) ?_
      rotate_left
      · intro w hSw; go_simp; with_reducible rfl
      simp only [Act.put, List.getElem_toArray, List.getElem_cons_zero, List.getElem_cons_succ, List.setIfInBounds_toArray, List.set_cons_zero, List.set_cons_succ]
      refine wpAnyX_take (i := 14) (oi := _) (v := ?_) rfl (by kernel_rfl) (by kernel_rfl) (by kernel_rfl) (by kernel_rfl) (fun _ _ _ h => h) (Or.inl ⟨by rfl, ?_⟩) (by assumption) ?_
      rotate_left
      · intro w hSw; go_simp; with_reducible rfl
      simp only [Act.put, List.getElem_toArray, List.getElem_cons_zero, List.getElem_cons_succ, List.setIfInBounds_toArray, List.set_cons_zero, List.set_cons_succ]
      refine wpAnyX_take (i := 15) (oi := _) (v := ?_) rfl (by kernel_rfl) (by kernel_rfl) (by kernel_rfl) (by kernel_rfl) (fun _ _ _ h => h) (Or.inl ⟨by rfl, ?_⟩) (by assumption) ?_
      rotate_left
      · intro w hSw; go_simp; with_reducible rfl
      simp only [Act.put, List.getElem_toArray, List.getElem_cons_zero, List.getElem_cons_succ, List.setIfInBounds_toArray, List.set_cons_zero, List.set_cons_succ]
      refine wpAnyX_take (i := 16) (oi := _) (v := ?_) rfl (by kernel_rfl) (by kernel_rfl) (by kernel_rfl) (by kernel_rfl) (fun _ _ _ h => h) (Or.inl ⟨by rfl, ?_⟩) (by assumption) ?_
      rotate_left
      · intro w hSw; go_simp; with_reducible rfl
      simp only [Act.put, List.getElem_toArray, List.getElem_cons_zero, List.getElem_cons_succ, List.setIfInBounds_toArray, List.set_cons_zero, List.set_cons_succ]
      refine wpAnyX_take (i := 17) (oi := _) (v := ?_) rfl (by kernel_rfl) (by kernel_rfl) (by kernel_rfl) (by kernel_rfl) (fun _ _ _ h => h) (Or.inl ⟨by rfl, ?_⟩) (by assumption) ?_
      rotate_left
      · intro w hSw; go_simp; with_reducible rfl
      simp only [Act.put, List.getElem_toArray, List.getElem_cons_zero, List.getElem_cons_succ, List.setIfInBounds_toArray, List.set_cons_zero, List.set_cons_succ]
      refine wpAnyX_ready (rs := [1, 10]) (by kernel_rfl) (by simp) ?_
      refine AllReadyX.cons rfl (fun K hK => ?_) ?_
      · skip
        have u1 := hid ((HS4.out).empty elRt 35 (wq.heap.size) (by simp) w0.heap.size (by have := HS4.out.bl.size; have := (HS4.out).bl.size; simp at *; omega))
        have a2 := hid (u1.out.step (Cls.drew _))
        go_simp
        go_wp2_with fail
        refine hK.out _ _ (ptS_of a2.out 1 4 rfl rfl (by decide)) (fun hHeld => ?_)
        clear hK K
        try simp only [Act.put, List.getElem_toArray, List.getElem_cons_zero, List.getElem_cons_succ, List.setIfInBounds_toArray, List.set_cons_zero, List.set_cons_succ]
        refine wpAnyX_ready (rs := [8, 10]) (by kernel_rfl) (by simp) ?_
        refine AllReadyX.cons rfl (fun K hK => ?_) ?_
        · skip
          refine step_append_led rfl _ _ 30 rfl (a2.out) 0 rfl Try.underlying30 hi hz0 hz1 (by rw [hz2]; decide) rfl rfl rfl (((a2.out).seesRS 3 rfl).take (k := 0) HP4.out) ((by first | (simp; done) | (simp; omega))) (by have := (a2.out).bl.size; simp at *; omega) ?_
          intro A3 c4 v5 h6
          rw [show ([] : List (Int × Sl)).length + 0 = 0 by simp, List.nil_append] at h6
          rw [show ([] : List (Int × Sl)).length + 0 = 0 by simp]
          have k7 := hid h6
          clear h6
          refine hK.out _ _ (ptS_of k7.out 1 4 rfl rfl (by decide)) (fun hHeld => ?_)
          clear hK K
          try simp only [Act.put, List.getElem_toArray, List.getElem_cons_zero, List.getElem_cons_succ, List.setIfInBounds_toArray, List.set_cons_zero, List.set_cons_succ]
          refine wpAnyX_ready (rs := [10]) (by kernel_rfl) (by simp) ?_
          refine AllReadyX.cons rfl (fun K hK => ?_) AllReadyX.nil
          have u8 := hid ((k7.out).blk_ (v5.heap.size) (by simp) 35 #[.int .i64 (s : Int), .slice B ids.length e])
          go_simp
          go_wp2_with fail
          refine hK.out _ _ (ptS_of u8.out 2 5 rfl rfl (by decide)) (fun hHeld => ?_)
          clear hK K
          try simp only [Act.put, List.getElem_toArray, List.getElem_cons_zero, List.getElem_cons_succ, List.setIfInBounds_toArray, List.set_cons_zero, List.set_cons_succ]
          refine wpAnyX_ready (rs := [11]) (by kernel_rfl) (by simp) ?_
          refine AllReadyX.cons rfl (fun K hK => ?_) AllReadyX.nil
          refine step_append_led rfl _ _ 30 rfl (u8.out) 1 rfl Try.underlying30 hi hz0 hz1 (by rw [hz2]; decide) rfl rfl rfl (sees_rt ((u8.out).get 0 rfl)) ((by rw [HT.out]; omega)) (by have := (u8.out).bl.size; simp at *; omega) ?_
          intro A10 c11 v12 h13
          rw [HT.out] at h13
          rw [HT.out]
          have k14 := hid h13
          clear h13
          refine hK.out _ _ (ptS_of k14.out 2 5 rfl rfl (by decide)) (fun hHeld => ?_)
          clear hK K
          try simp only [Act.put, List.getElem_toArray, List.getElem_cons_zero, List.getElem_cons_succ, List.setIfInBounds_toArray, List.set_cons_zero, List.set_cons_succ]
          refine wpAnyX_ready (rs := [18]) (by kernel_rfl) (by simp) ?_
          refine AllReadyX.cons rfl (fun K hK => ?_) AllReadyX.nil
          refine step_append_led rfl _ _ 30 rfl (k14.out) 1 rfl Try.underlying30 hi hz0 hz1 (by rw [hz2]; decide) rfl rfl rfl (((k14.out).seesRS 4 rfl)) ((by rw [List.length_append, HT.out]; simp; omega)) (by have := (k14.out).bl.size; simp at *; omega) ?_
          intro A15 c16 v17 h18
          rw [show (ss.take 0 ++ [((s : Int), (⟨B, ids.length, e⟩ : Sl))]).length + (l.length) = l.length + 1 by rw [List.length_append, HT.out]; have := HP4.out; simp; try omega] at h18 ⊢
          have k19 := hid h18
          clear h18
          refine hK.out _ _ (ptS_of k19.out 2 5 rfl rfl (by decide)) (fun hHeld => ?_)
          clear hK K
          try simp only [Act.put, List.getElem_toArray, List.getElem_cons_zero, List.getElem_cons_succ, List.setIfInBounds_toArray, List.set_cons_zero, List.set_cons_succ]
          refine wpAnyX_ready (rs := [19]) (by kernel_rfl) (by simp) ?_
          refine AllReadyX.cons rfl (fun K hK => ?_) AllReadyX.nil
          go_simp
          refine hK.out _ _ (ptS_of k19.out 2 5 rfl rfl (by decide)) (fun hHeld => ?_)
          clear hK K
          try simp only [Act.put, List.getElem_toArray, List.getElem_cons_zero, List.getElem_cons_succ, List.setIfInBounds_toArray, List.set_cons_zero, List.set_cons_succ]
          refine wpAnyX_take (i := 20) (oi := _) (v := ?_) rfl (by kernel_rfl) (by kernel_rfl) (by kernel_rfl) (by kernel_rfl) (fun _ _ _ h => h) (Or.inl ⟨by rfl, ?_⟩) (by assumption) ?_
          rotate_left
          · intro w hSw; go_simp; with_reducible rfl
          simp only [Act.put, List.getElem_toArray, List.getElem_cons_zero, List.getElem_cons_succ, List.setIfInBounds_toArray, List.set_cons_zero, List.set_cons_succ]
          have q1 := (k19.out).cell 5 3 rfl rfl
          have z1 := (k19.out).frozen 5 3 rfl
          have k1 := hid ((k19.out).set 5 rfl 3 (.slice A15 (l.length + 1) c16))
          refine wpAnyX_ready (rs := [21]) (by kernel_rfl) (by simp) ?_
          refine AllReadyX.last rfl (fun K hK => ?_)
          go_simp
          refine hK.out _ _ ?_
          clear hK K
          try simp only [Act.put, List.getElem_toArray, List.getElem_cons_zero, List.getElem_cons_succ, List.setIfInBounds_toArray, List.set_cons_zero, List.set_cons_succ]
          refine wpAnyX_done (by kernel_rfl) ?_ _
          have k2 := Led.front (P := [_, _, _, _, _, _]) (R := R) k1.out [1, 3, 4, 5] (by decide) rfl
          have k3 := hid (Led.relist (p := 0) (s0 := ((s : Int), (⟨B, ids.length, e⟩ : Sl))) (r0 := ((s : Int), ids)) (R := tBlk gx 133 (srX A n c A' m d to (.slice A15 (l.length + 1) c16)) :: R) (show Led w0 _ (tOwns elRt w0.heap.size 35 (.slice A15 (l.length + 1) c16) (putAt ss 0 ((s : Int), (⟨B, ids.length, e⟩ : Sl))) :: tOwns elInt b 3 (.slice B ids.length e) ids :: tRS w0.heap.size (.slice AV l.length cV) ss (l.map fun r => ((s : Int), r)) :: tBlk gx 133 (srX A n c A' m d to (.slice A15 (l.length + 1) c16)) :: R) from by rw [HPU.out]; exact k2) HPS.out rfl hbb (Nat.le_refl _))
          clear k1 k2 q1 z1
          go_wp2_with fail
          go_end0
          refine ⟨rfl, .slice A15 (l.length + 1) c16, putAt ss 0 ((s : Int), (⟨B, ids.length, e⟩ : Sl)), ?_⟩
          have e1 : (insR fs (s : Int) l ids).map (fun r => ((s : Int), r)) = putAt (l.map fun r => ((s : Int), r)) 0 ((s : Int), ids) := by unfold insR; rw [HPL.out, putAt_map]
          rw [e1]
          exact k3.out
        refine AllReadyX.cons rfl (fun K hK => ?_) AllReadyX.nil
        have u20 := hid ((u1.out).blk_ (wq.heap.size + 1) (by simp) 35 #[.int .i64 (s : Int), .slice B ids.length e])
        have a21 := hid (u20.out.step (Cls.drew _))
        go_simp
        go_wp2_with fail
        refine hK.out _ _ (ptS_of a21.out 2 5 rfl rfl (by decide)) (fun hHeld => ?_)
        clear hK K
        try simp only [Act.put, List.getElem_toArray, List.getElem_cons_zero, List.getElem_cons_succ, List.setIfInBounds_toArray, List.set_cons_zero, List.set_cons_succ]
        refine wpAnyX_ready (rs := [8]) (by kernel_rfl) (by simp) ?_
        refine AllReadyX.cons rfl (fun K hK => ?_) AllReadyX.nil
        refine step_append_led rfl _ _ 30 rfl (a21.out) 1 rfl Try.underlying30 hi hz0 hz1 (by rw [hz2]; decide) rfl rfl rfl (((a21.out).seesRS 4 rfl).take (k := 0) HP4.out) ((by first | (simp; done) | (simp; omega))) (by have := (a21.out).bl.size; simp at *; omega) ?_
        intro A22 c23 v24 h25
        rw [show ([] : List (Int × Sl)).length + 0 = 0 by simp, List.nil_append] at h25
        rw [show ([] : List (Int × Sl)).length + 0 = 0 by simp]
        have k26 := hid h25
        clear h25
        refine hK.out _ _ (ptS_of k26.out 2 5 rfl rfl (by decide)) (fun hHeld => ?_)
        clear hK K
        try simp only [Act.put, List.getElem_toArray, List.getElem_cons_zero, List.getElem_cons_succ, List.setIfInBounds_toArray, List.set_cons_zero, List.set_cons_succ]
        refine wpAnyX_ready (rs := [11]) (by kernel_rfl) (by simp) ?_
        refine AllReadyX.cons rfl (fun K hK => ?_) AllReadyX.nil
        refine step_append_led rfl _ _ 30 rfl (k26.out) 1 rfl Try.underlying30 hi hz0 hz1 (by rw [hz2]; decide) rfl rfl rfl (sees_rt ((k26.out).get 0 rfl)) ((by rw [HT.out]; omega)) (by have := (k26.out).bl.size; simp at *; omega) ?_
        intro A27 c28 v29 h30
        rw [HT.out] at h30
        rw [HT.out]
        have k31 := hid h30
        clear h30
        refine hK.out _ _ (ptS_of k31.out 2 5 rfl rfl (by decide)) (fun hHeld => ?_)
        clear hK K
        try simp only [Act.put, List.getElem_toArray, List.getElem_cons_zero, List.getElem_cons_succ, List.setIfInBounds_toArray, List.set_cons_zero, List.set_cons_succ]
        refine wpAnyX_ready (rs := [18]) (by kernel_rfl) (by simp) ?_
        refine AllReadyX.cons rfl (fun K hK => ?_) AllReadyX.nil
        refine step_append_led rfl _ _ 30 rfl (k31.out) 1 rfl Try.underlying30 hi hz0 hz1 (by rw [hz2]; decide) rfl rfl rfl (((k31.out).seesRS 4 rfl)) ((by rw [List.length_append, HT.out]; simp; omega)) (by have := (k31.out).bl.size; simp at *; omega) ?_
        intro A32 c33 v34 h35
        rw [show (ss.take 0 ++ [((s : Int), (⟨B, ids.length, e⟩ : Sl))]).length + (l.length) = l.length + 1 by rw [List.length_append, HT.out]; have := HP4.out; simp; try omega] at h35 ⊢
        have k36 := hid h35
        clear h35
        refine hK.out _ _ (ptS_of k36.out 2 5 rfl rfl (by decide)) (fun hHeld => ?_)
        clear hK K
        try simp only [Act.put, List.getElem_toArray, List.getElem_cons_zero, List.getElem_cons_succ, List.setIfInBounds_toArray, List.set_cons_zero, List.set_cons_succ]
        refine wpAnyX_ready (rs := [19]) (by kernel_rfl) (by simp) ?_
        refine AllReadyX.cons rfl (fun K hK => ?_) AllReadyX.nil
        go_simp
        refine hK.out _ _ (ptS_of k36.out 2 5 rfl rfl (by decide)) (fun hHeld => ?_)
        clear hK K
        try simp only [Act.put, List.getElem_toArray, List.getElem_cons_zero, List.getElem_cons_succ, List.setIfInBounds_toArray, List.set_cons_zero, List.set_cons_succ]
        refine wpAnyX_take (i := 20) (oi := _) (v := ?_) rfl (by kernel_rfl) (by kernel_rfl) (by kernel_rfl) (by kernel_rfl) (fun _ _ _ h => h) (Or.inl ⟨by rfl, ?_⟩) (by assumption) ?_
        rotate_left
        · intro w hSw; go_simp; with_reducible rfl
        simp only [Act.put, List.getElem_toArray, List.getElem_cons_zero, List.getElem_cons_succ, List.setIfInBounds_toArray, List.set_cons_zero, List.set_cons_succ]
        have q1 := (k36.out).cell 5 3 rfl rfl
        have z1 := (k36.out).frozen 5 3 rfl
        have k1 := hid ((k36.out).set 5 rfl 3 (.slice A32 (l.length + 1) c33))
        refine wpAnyX_ready (rs := [21]) (by kernel_rfl) (by simp) ?_
        refine AllReadyX.last rfl (fun K hK => ?_)
        go_simp
        refine hK.out _ _ ?_
        clear hK K
        try simp only [Act.put, List.getElem_toArray, List.getElem_cons_zero, List.getElem_cons_succ, List.setIfInBounds_toArray, List.set_cons_zero, List.set_cons_succ]
        refine wpAnyX_done (by kernel_rfl) ?_ _
        have k2 := Led.front (P := [_, _, _, _, _, _]) (R := R) k1.out [1, 3, 4, 5] (by decide) rfl
        have k3 := hid (Led.relist (p := 0) (s0 := ((s : Int), (⟨B, ids.length, e⟩ : Sl))) (r0 := ((s : Int), ids)) (R := tBlk gx 133 (srX A n c A' m d to (.slice A32 (l.length + 1) c33)) :: R) (show Led w0 _ (tOwns elRt w0.heap.size 35 (.slice A32 (l.length + 1) c33) (putAt ss 0 ((s : Int), (⟨B, ids.length, e⟩ : Sl))) :: tOwns elInt b 3 (.slice B ids.length e) ids :: tRS w0.heap.size (.slice AV l.length cV) ss (l.map fun r => ((s : Int), r)) :: tBlk gx 133 (srX A n c A' m d to (.slice A32 (l.length + 1) c33)) :: R) from by rw [HPU.out]; exact k2) HPS.out rfl hbb (Nat.le_refl _))
        clear k1 k2 q1 z1
        go_wp2_with fail
        go_end0
        refine ⟨rfl, .slice A32 (l.length + 1) c33, putAt ss 0 ((s : Int), (⟨B, ids.length, e⟩ : Sl)), ?_⟩
        have e1 : (insR fs (s : Int) l ids).map (fun r => ((s : Int), r)) = putAt (l.map fun r => ((s : Int), r)) 0 ((s : Int), ids) := by unfold insR; rw [HPL.out, putAt_map]
        rw [e1]
        exact k3.out
      refine AllReadyX.cons rfl (fun K hK => ?_) AllReadyX.nil
      have u37 := hid ((HS4.out).blk_ (wq.heap.size) (by simp) 35 #[.int .i64 (s : Int), .slice B ids.length e])
      have a38 := hid (u37.out.step (Cls.drew _))
      go_simp
      go_wp2_with fail
      refine hK.out _ _ (ptS_of a38.out 1 4 rfl rfl (by decide)) (fun hHeld => ?_)
      clear hK K
      try simp only [Act.put, List.getElem_toArray, List.getElem_cons_zero, List.getElem_cons_succ, List.setIfInBounds_toArray, List.set_cons_zero, List.set_cons_succ]
      refine wpAnyX_ready (rs := [1]) (by kernel_rfl) (by simp) ?_
      refine AllReadyX.cons rfl (fun K hK => ?_) AllReadyX.nil
      have u39 := hid ((u37.out).empty elRt 35 (wq.heap.size + 1) (by simp) w0.heap.size (by have := HS4.out.bl.size; have := (u37.out).bl.size; simp at *; omega))
      have a40 := hid (u39.out.step (Cls.drew _))
      go_simp
      go_wp2_with fail
      refine hK.out _ _ (ptS_of a40.out 2 5 rfl rfl (by decide)) (fun hHeld => ?_)
      clear hK K
      try simp only [Act.put, List.getElem_toArray, List.getElem_cons_zero, List.getElem_cons_succ, List.setIfInBounds_toArray, List.set_cons_zero, List.set_cons_succ]
      refine wpAnyX_ready (rs := [8]) (by kernel_rfl) (by simp) ?_
      refine AllReadyX.cons rfl (fun K hK => ?_) AllReadyX.nil
      refine step_append_led rfl _ _ 30 rfl (a40.out) 0 rfl Try.underlying30 hi hz0 hz1 (by rw [hz2]; decide) rfl rfl rfl (((a40.out).seesRS 4 rfl).take (k := 0) HP4.out) ((by first | (simp; done) | (simp; omega))) (by have := (a40.out).bl.size; simp at *; omega) ?_
      intro A41 c42 v43 h44
      rw [show ([] : List (Int × Sl)).length + 0 = 0 by simp, List.nil_append] at h44
      rw [show ([] : List (Int × Sl)).length + 0 = 0 by simp]
      have k45 := hid h44
      clear h44
      refine hK.out _ _ (ptS_of k45.out 2 5 rfl rfl (by decide)) (fun hHeld => ?_)
      clear hK K
      try simp only [Act.put, List.getElem_toArray, List.getElem_cons_zero, List.getElem_cons_succ, List.setIfInBounds_toArray, List.set_cons_zero, List.set_cons_succ]
      refine wpAnyX_ready (rs := [11]) (by kernel_rfl) (by simp) ?_
      refine AllReadyX.cons rfl (fun K hK => ?_) AllReadyX.nil
      refine step_append_led rfl _ _ 30 rfl (k45.out) 0 rfl Try.underlying30 hi hz0 hz1 (by rw [hz2]; decide) rfl rfl rfl (sees_rt ((k45.out).get 1 rfl)) ((by rw [HT.out]; omega)) (by have := (k45.out).bl.size; simp at *; omega) ?_
      intro A46 c47 v48 h49
      rw [HT.out] at h49
      rw [HT.out]
      have k50 := hid h49
      clear h49
      refine hK.out _ _ (ptS_of k50.out 2 5 rfl rfl (by decide)) (fun hHeld => ?_)
      clear hK K
      try simp only [Act.put, List.getElem_toArray, List.getElem_cons_zero, List.getElem_cons_succ, List.setIfInBounds_toArray, List.set_cons_zero, List.set_cons_succ]
      refine wpAnyX_ready (rs := [18]) (by kernel_rfl) (by simp) ?_
      refine AllReadyX.cons rfl (fun K hK => ?_) AllReadyX.nil
      refine step_append_led rfl _ _ 30 rfl (k50.out) 0 rfl Try.underlying30 hi hz0 hz1 (by rw [hz2]; decide) rfl rfl rfl (((k50.out).seesRS 4 rfl)) ((by rw [List.length_append, HT.out]; simp; omega)) (by have := (k50.out).bl.size; simp at *; omega) ?_
      intro A51 c52 v53 h54
      rw [show (ss.take 0 ++ [((s : Int), (⟨B, ids.length, e⟩ : Sl))]).length + (l.length) = l.length + 1 by rw [List.length_append, HT.out]; have := HP4.out; simp; try omega] at h54 ⊢
      have k55 := hid h54
      clear h54
      refine hK.out _ _ (ptS_of k55.out 2 5 rfl rfl (by decide)) (fun hHeld => ?_)
      clear hK K
      try simp only [Act.put, List.getElem_toArray, List.getElem_cons_zero, List.getElem_cons_succ, List.setIfInBounds_toArray, List.set_cons_zero, List.set_cons_succ]
      refine wpAnyX_ready (rs := [19]) (by kernel_rfl) (by simp) ?_
      refine AllReadyX.cons rfl (fun K hK => ?_) AllReadyX.nil
      go_simp
      refine hK.out _ _ (ptS_of k55.out 2 5 rfl rfl (by decide)) (fun hHeld => ?_)
      clear hK K
      try simp only [Act.put, List.getElem_toArray, List.getElem_cons_zero, List.getElem_cons_succ, List.setIfInBounds_toArray, List.set_cons_zero, List.set_cons_succ]
      refine wpAnyX_take (i := 20) (oi := _) (v := ?_) rfl (by kernel_rfl) (by kernel_rfl) (by kernel_rfl) (by kernel_rfl) (fun _ _ _ h => h) (Or.inl ⟨by rfl, ?_⟩) (by assumption) ?_
      rotate_left
      · intro w hSw; go_simp; with_reducible rfl
      simp only [Act.put, List.getElem_toArray, List.getElem_cons_zero, List.getElem_cons_succ, List.setIfInBounds_toArray, List.set_cons_zero, List.set_cons_succ]
      have q1 := (k55.out).cell 5 3 rfl rfl
      have z1 := (k55.out).frozen 5 3 rfl
      have k1 := hid ((k55.out).set 5 rfl 3 (.slice A51 (l.length + 1) c52))
      refine wpAnyX_ready (rs := [21]) (by kernel_rfl) (by simp) ?_
      refine AllReadyX.last rfl (fun K hK => ?_)
      go_simp
      refine hK.out _ _ ?_
      clear hK K
      try simp only [Act.put, List.getElem_toArray, List.getElem_cons_zero, List.getElem_cons_succ, List.setIfInBounds_toArray, List.set_cons_zero, List.set_cons_succ]
      refine wpAnyX_done (by kernel_rfl) ?_ _
      have k2 := Led.front (P := [_, _, _, _, _, _]) (R := R) k1.out [0, 3, 4, 5] (by decide) rfl
      have k3 := hid (Led.relist (p := 0) (s0 := ((s : Int), (⟨B, ids.length, e⟩ : Sl))) (r0 := ((s : Int), ids)) (R := tBlk gx 133 (srX A n c A' m d to (.slice A51 (l.length + 1) c52)) :: R) (show Led w0 _ (tOwns elRt w0.heap.size 35 (.slice A51 (l.length + 1) c52) (putAt ss 0 ((s : Int), (⟨B, ids.length, e⟩ : Sl))) :: tOwns elInt b 3 (.slice B ids.length e) ids :: tRS w0.heap.size (.slice AV l.length cV) ss (l.map fun r => ((s : Int), r)) :: tBlk gx 133 (srX A n c A' m d to (.slice A51 (l.length + 1) c52)) :: R) from by rw [HPU.out]; exact k2) HPS.out rfl hbb (Nat.le_refl _))
      clear k1 k2 q1 z1
      go_wp2_with fail
      go_end0
      refine ⟨rfl, .slice A51 (l.length + 1) c52, putAt ss 0 ((s : Int), (⟨B, ids.length, e⟩ : Sl)), ?_⟩
      have e1 : (insR fs (s : Int) l ids).map (fun r => ((s : Int), r)) = putAt (l.map fun r => ((s : Int), r)) 0 ((s : Int), ids) := by unfold insR; rw [HPL.out, putAt_map]
      rw [e1]
      exact k3.out
    · obtain ⟨q, rfl⟩ : ∃ q, p = q + 1 := ⟨p - 1, by omega⟩
      have hql : q < l.length := hp
      obtain ⟨r, hr⟩ : ∃ r, l[q]? = some r := ⟨l[q], List.getElem?_eq_getElem hql⟩
      obtain ⟨⟨s1, t⟩, ht⟩ : ∃ t, ss[q]? = some t := ⟨ss[q]'(by rw [HSL.out]; exact hql), List.getElem?_eq_getElem _⟩
      have hO : OwnsRS wr w0.heap.size (.slice AV l.length cV) ss (l.map fun r => ((s : Int), r)) := HS.out.get 2 rfl
      obtain ⟨hs1, how⟩ := hO.2.2.1 q (s1, t) ((s : Int), r) ht (by rw [List.getElem?_map, hr]; rfl)
      simp only at hs1 how
      subst hs1
      obtain ⟨tA, tc, htv, htc, _, _⟩ := how.form
      unfold slV at htv
      injection htv with e1 e2 e3
      obtain ⟨tA', tn, tc'⟩ := t
      simp only at e1 e2 e3
      subst e1
      subst e2
      subst e3
      have hrok := HL.out r (List.mem_of_getElem? hr)
      obtain ⟨gv, go, rfl, _, hc⟩ := (HQ.out wr (Cls.refl _)).at_ hql
      have f0 := hc q _ ht 0 _ rfl
      have f1 := hc q _ ht 1 _ rfl
      simp only [elRt, Nat.add_zero, slV] at f0 f1
      have D0 : ∀ w', Cls wr w' → w'.cell? ⟨gv, go + q * 2, none⟩ = some (.int .i64 (s : Int)) := fun _ h => h.cell f0
      have D1 : ∀ w', Cls wr w' → w'.cell? ⟨gv, go + q * 2 + 1, none⟩ = some (.slice tA' r.length tc') := fun _ h => h.cell f1
      obtain ⟨x, hx⟩ : ∃ x, ordR fs (s : Int) ids (s : Int) r = x := ⟨_, rfl⟩
      have HC : Hid (∀ w', Cls wr w' → Calls Try.prog 172 #[.agg #[.slice A n c, .slice A' m d], .agg #[.int .i64 (s : Int), .slice B ids.length e], .agg #[.int .i64 (s : Int), .slice tA' r.length tc']] w' fun e w2 => e = .returned (.int .i64 x) ∧ Below w'.heap.size w' w2) := fun w' hw' => by
        have hl' := HS.out.step hw'
        have hO' : OwnsRS w' w0.heap.size (.slice (some ⟨gv, go, none⟩) l.length cV) ss (l.map fun r => ((s : Int), r)) := hl'.get 2 rfl
        have hw2 := (hO'.2.2.1 q _ ((s : Int), r) ht (by rw [List.getElem?_map, hr]; rfl)).2
        rw [← hx]
        exact l4Compare_any w' (HN.out.grow hl'.bl) ⟨⟨(hl'.form 1 rfl).elim (fun A1 h1 => h1.elim fun c1 h2 => by have := h2.1; injection this with _ _ e3; rw [e3]; exact h2.2), hi1⟩, hl'.seesI 1 rfl⟩ ⟨⟨htc, hrok.1⟩, Owns.sees hw2⟩ (goodB_lens HG.out) HIDS.out hrok.2 ⟨by omega, by omega⟩ ⟨by omega, by omega⟩
      have HX : Hid (plcR fs (s : Int) l ids (q + 1) = if x < 0 then plcR fs (s : Int) l ids q else q + 1) := by
        unfold Hid
        rw [plcR, List.getD_eq_getElem?_getD, hr]
        show (if ordR fs (s : Int) ids (s : Int) r < 0 then _ else _) = _
        rw [hx]
      have iw : IntKind.i64.wrap (((q + 1 : Nat) : Int) - 1) = (q : Int) := by rw [IntWalk.i64_in _ (by omega)]; omega
      have iw2 : IntKind.i64.wrap (q : Int) = (q : Int) := IntWalk.i64_in _ (by omega)
      have ip : ((q + 1 : Nat) : Int) > 0 := by omega
      have iq : (0 : Int) ≤ (q : Int) := by omega
      have iq2 : (q : Int) < (l.length : Int) := by omega
      clear hO how hc f0 f1 hx ht hr
      by_cases hx0 : x < 0
      · go_wp2_with fail
        refine region_cls (by kernel_rfl) (by kernel_rfl) ?_
        repeat (first
          | ((with_reducible refine quiet_pos ?_ (fun K hK => ?_))
             · rfl
             apply Exists.intro
             refine ⟨fun w' hw' => ?_, ?_⟩
             · go_simp
               first
                 | with_reducible rfl
                 | go_at_call 172; with_reducible exact hw'.call (HC.out _ hw')
             simp only [Act.put, List.setIfInBounds_toArray, List.set_cons_zero, List.set_cons_succ]
             refine hK _ ?_; clear hK K)
          | ((with_reducible refine quiet_neg ?_ (fun K hK => ?_))
             · rfl
             simp only [Act.put, List.setIfInBounds_toArray, List.set_cons_zero, List.set_cons_succ]
             refine hK _ ?_; clear hK K))
        with_reducible refine wpQuiet_nil ?_
        intro wz hwz'
        have hs4 := hid (HS.out.step hwz')
        have HP2 : Hid (plcR fs (s : Int) l ids q = plcR fs (s : Int) l ids l.length) := by unfold Hid; rw [← HP.out, HX.out, if_pos hx0]
        clear hwz' C0 C1 C2 C3 C4 D0 D1 HC HS HQ
        go_wp2
        refine ⟨⟨q, by omega, rfl, HP2, hs4⟩, by first | (simp [intOf]; done) | (simp [intOf]; omega)⟩
      · have HPL : Hid (plcR fs (s : Int) l ids l.length = q + 1) := by unfold Hid; rw [← HP.out, HX.out, if_neg hx0]
        go_wp2_with fail
        refine region_cls (by kernel_rfl) (by kernel_rfl) ?_
        repeat (first
          | ((with_reducible refine quiet_pos ?_ (fun K hK => ?_))
             · rfl
             apply Exists.intro
             refine ⟨fun w' hw' => ?_, ?_⟩
             · go_simp
               first
                 | with_reducible rfl
                 | go_at_call 172; with_reducible exact hw'.call (HC.out _ hw')
             simp only [Act.put, List.setIfInBounds_toArray, List.set_cons_zero, List.set_cons_succ]
             refine hK _ ?_; clear hK K)
          | ((with_reducible refine quiet_neg ?_ (fun K hK => ?_))
             · rfl
             simp only [Act.put, List.setIfInBounds_toArray, List.set_cons_zero, List.set_cons_succ]
             refine hK _ ?_; clear hK K))
        with_reducible refine wpQuiet_nil ?_
        intro wz hwz'
        have hs4 := HS.out.step hwz'
        have HS4 := hid hs4
        clear hs4 hwz' C0 C1 C2 C3 C4 D0 D1 HC HS HQ HX HP
        go_wp2_with fail
        revert wz
        intro wq HS4
        have HP4 : Hid (q + 1 ≤ l.length) := hp
        have HPS : Hid (q + 1 ≤ ss.length) := by unfold Hid; rw [HSL.out]; exact hp
        have HT : Hid ((ss.take (q + 1)).length = q + 1) := by unfold Hid; rw [List.length_take]; have := HPS.out; omega
        have HPU : Hid (putAt ss (q + 1) ((s : Int), (⟨B, ids.length, e⟩ : Sl)) = ss.take (q + 1) ++ [((s : Int), (⟨B, ids.length, e⟩ : Sl))] ++ ss.drop (q + 1)) := by unfold Hid putAt; rw [List.append_assoc]; rfl
        have ik1 : (0 : Int) ≤ (q : Int) + 1 := by omega
        have ik3 : (q : Int) + 1 ≤ (l.length : Int) := by omega
        by_cases hcc : q + 1 = cV
        · subst hcc
          have HZ : Hid (l.length - (q + 1) = 0) := by unfold Hid; omega
          have hbz := Below.refl 0 wq
          obtain ⟨i0, hi, hz0, hz1, hz2⟩ := info_parts rt_info
          have E0 : ∀ w', ptS w0 gx w.heap.size A n c A' m d to s (.slice (some ⟨gv, go, none⟩) l.length (q + 1)) B ids.length e w' → w'.cell? ⟨w.heap.size, 0, none⟩ = some (.int .i64 (s : Int)) := fun _ h => Led.cell h 0 0 rfl rfl
          have E1 : ∀ w', ptS w0 gx w.heap.size A n c A' m d to s (.slice (some ⟨gv, go, none⟩) l.length (q + 1)) B ids.length e w' → w'.cell? ⟨w.heap.size, 1, none⟩ = some (.slice B ids.length e) := fun _ h => Led.cell h 0 1 rfl rfl
          have E2 : ∀ w', ptS w0 gx w.heap.size A n c A' m d to s (.slice (some ⟨gv, go, none⟩) l.length (q + 1)) B ids.length e w' → w'.cell? ⟨gx, 3, none⟩ = some (.slice (some ⟨gv, go, none⟩) l.length (q + 1)) := fun _ h => Led.cell h 1 3 rfl rfl
          have HM := hid (mem_ptS (HS4.out.step (Cls.drew wq)))
          refine wp_region_heldX 21 (ptS w0 gx w.heap.size A n c A' m d to s (.slice (some ⟨gv, go, none⟩) l.length (q + 1)) B ids.length e) (by kernel_rfl) (HM.out) (fun hHeld => ?_)
          refine wpAnyX_take (i := 0) (oi := _) (v := ?_) rfl (by kernel_rfl) (by kernel_rfl) (by kernel_rfl) (by kernel_rfl) (fun _ _ _ h => h) (Or.inl ⟨by rfl, ?_⟩) (by assumption) ?_
          rotate_left
          · intro w hSw; go_simp; with_reducible rfl
          simp only [Act.put, List.getElem_toArray, List.getElem_cons_zero, List.setIfInBounds_toArray, List.set_cons_zero, List.set_cons_succ]
          refine wpAnyX_take (i := 2) (oi := _) (v := ?_) rfl (by kernel_rfl) (by kernel_rfl) (by kernel_rfl) (by kernel_rfl) (fun _ _ _ h => h) (Or.inl ⟨by rfl, ?_⟩) (by assumption) ?_
          rotate_left
          · intro w hSw; go_simp; with_reducible rfl
          simp only [Act.put, List.getElem_toArray, List.getElem_cons_zero, List.getElem_cons_succ, List.setIfInBounds_toArray, List.set_cons_zero, List.set_cons_succ]
          refine wpAnyX_take (i := 3) (oi := _) (v := ?_) rfl (by kernel_rfl) (by kernel_rfl) (by kernel_rfl) (by kernel_rfl) (fun _ _ _ h => h) (Or.inl ⟨by rfl, ?_⟩) (by assumption) ?_
          rotate_left
          · intro w hSw; go_simp; with_reducible rfl
          simp only [Act.put, List.getElem_toArray, List.getElem_cons_zero, List.getElem_cons_succ, List.setIfInBounds_toArray, List.set_cons_zero, List.set_cons_succ]
          refine wpAnyX_take (i := 4) (oi := _) (v := ?_) rfl (by kernel_rfl) (by kernel_rfl) (by kernel_rfl) (by kernel_rfl) (fun _ _ _ h => h) (Or.inl ⟨by rfl, ?_⟩) (by assumption) ?_
          rotate_left
          · intro w hSw; go_simp; with_reducible rfl
          simp only [Act.put, List.getElem_toArray, List.getElem_cons_zero, List.getElem_cons_succ, List.setIfInBounds_toArray, List.set_cons_zero, List.set_cons_succ]
          refine wpAnyX_take (i := 5) (oi := _) (v := ?_) rfl (by kernel_rfl) (by kernel_rfl) (by kernel_rfl) (by kernel_rfl) (fun _ _ _ h => h) (Or.inl ⟨by rfl, ?_⟩) (by assumption) ?_
          rotate_left
          · intro w hSw; go_simp; with_reducible rfl
          simp only [Act.put, List.getElem_toArray, List.getElem_cons_zero, List.getElem_cons_succ, List.setIfInBounds_toArray, List.set_cons_zero, List.set_cons_succ]
          refine wpAnyX_take (i := 6) (oi := _) (v := ?_) rfl (by kernel_rfl) (by kernel_rfl) (by kernel_rfl) (by kernel_rfl) (fun _ _ _ h => h) (Or.inl ⟨by rfl, ?_⟩) (by assumption) ?_
          rotate_left
          · intro w hSw; go_simp; with_reducible rfl
          simp only [Act.put, List.getElem_toArray, List.getElem_cons_zero, List.getElem_cons_succ, List.setIfInBounds_toArray, List.set_cons_zero, List.set_cons_succ]
          refine wpAnyX_take (i := 7) (oi := _) (v := ?_) rfl (by kernel_rfl) (by kernel_rfl) (by kernel_rfl) (by kernel_rfl) (fun _ _ _ h => h) (Or.inl ⟨by rfl, ?_⟩) (by assumption) ?_
          rotate_left
          · intro w hSw; go_simp; with_reducible rfl
          simp only [Act.put, List.getElem_toArray, List.getElem_cons_zero, List.getElem_cons_succ, List.setIfInBounds_toArray, List.set_cons_zero, List.set_cons_succ]
          refine wpAnyX_take (i := 9) (oi := _) (v := ?_) rfl (by kernel_rfl) (by kernel_rfl) (by kernel_rfl) (by kernel_rfl) (fun _ _ _ h => h) (Or.inl ⟨by rfl, ?_⟩) (by assumption) ?_
          rotate_left
          · intro w hSw; go_simp; with_reducible rfl
          simp only [Act.put, List.getElem_toArray, List.getElem_cons_zero, List.getElem_cons_succ, List.setIfInBounds_toArray, List.set_cons_zero, List.set_cons_succ]
          refine wpAnyX_take (i := 12) (oi := _) (v := ?_) rfl (by kernel_rfl) (by kernel_rfl) (by kernel_rfl) (by kernel_rfl) (fun _ _ _ h => h) (Or.inl ⟨by rfl, ?_⟩) (by assumption) ?_
          rotate_left
          · intro w hSw; go_simp; with_reducible rfl
          simp only [Act.put, List.getElem_toArray, List.getElem_cons_zero, List.getElem_cons_succ, List.setIfInBounds_toArray, List.set_cons_zero, List.set_cons_succ]
          refine wpAnyX_take (i := 13) (oi := _) (v := ?_) rfl (by kernel_rfl) (by kernel_rfl) (by kernel_rfl) (by kernel_rfl) (fun _ _ _ h => h) (Or.inl ⟨by rfl, ?_⟩) (by assumption) ?_
          rotate_left
          · intro w hSw; go_simp; with_reducible rfl
          simp only [Act.put, List.getElem_toArray, List.getElem_cons_zero, List.getElem_cons_succ, List.setIfInBounds_toArray, List.set_cons_zero, List.set_cons_succ]
          refine wpAnyX_take (i := 14) (oi := _) (v := ?_) rfl (by kernel_rfl) (by kernel_rfl) (by kernel_rfl) (by kernel_rfl) (fun _ _ _ h => h) (Or.inl ⟨by rfl, ?_⟩) (by assumption) ?_
          rotate_left
          · intro w hSw; go_simp; with_reducible rfl
          simp only [Act.put, List.getElem_toArray, List.getElem_cons_zero, List.getElem_cons_succ, List.setIfInBounds_toArray, List.set_cons_zero, List.set_cons_succ]
          refine wpAnyX_take (i := 15) (oi := _) (v := ?_) rfl (by kernel_rfl) (by kernel_rfl) (by kernel_rfl) (by kernel_rfl) (fun _ _ _ h => h) (Or.inl ⟨by rfl, ?_⟩) (by assumption) ?_
          rotate_left
          · intro w hSw; go_simp; with_reducible rfl
          simp only [Act.put, List.getElem_toArray, List.getElem_cons_zero, List.getElem_cons_succ, List.setIfInBounds_toArray, List.set_cons_zero, List.set_cons_succ]
          refine wpAnyX_take (i := 16) (oi := _) (v := ?_) rfl (by kernel_rfl) (by kernel_rfl) (by kernel_rfl) (by kernel_rfl) (fun _ _ _ h => h) (Or.inl ⟨by rfl, ?_⟩) (by assumption) ?_
          rotate_left
          · intro w hSw; go_simp; with_reducible rfl
          simp only [Act.put, List.getElem_toArray, List.getElem_cons_zero, List.getElem_cons_succ, List.setIfInBounds_toArray, List.set_cons_zero, List.set_cons_succ]
          refine wpAnyX_take (i := 17) (oi := _) (v := ?_) rfl (by kernel_rfl) (by kernel_rfl) (by kernel_rfl) (by kernel_rfl) (fun _ _ _ h => h) (Or.inl ⟨by rfl, ?_⟩) (by assumption) ?_
          rotate_left
          · intro w hSw; go_simp; with_reducible rfl
          simp only [Act.put, List.getElem_toArray, List.getElem_cons_zero, List.getElem_cons_succ, List.setIfInBounds_toArray, List.set_cons_zero, List.set_cons_succ]
          refine wpAnyX_ready (rs := [1, 10]) (by kernel_rfl) (by simp) ?_
          refine AllReadyX.cons rfl (fun K hK => ?_) ?_
          · skip
            have u1 := hid ((HS4.out).empty elRt 35 (wq.heap.size) (by simp) w0.heap.size (by have := HS4.out.bl.size; have := (HS4.out).bl.size; simp at *; omega))
            have a2 := hid (u1.out.step (Cls.drew _))
            go_simp
            go_wp2_with fail
            refine hK.out _ _ (ptS_of a2.out 1 4 rfl rfl (by decide)) (fun hHeld => ?_)
            clear hK K
            try simp only [Act.put, List.getElem_toArray, List.getElem_cons_zero, List.getElem_cons_succ, List.setIfInBounds_toArray, List.set_cons_zero, List.set_cons_succ]
            refine wpAnyX_ready (rs := [8, 10]) (by kernel_rfl) (by simp) ?_
            refine AllReadyX.cons rfl (fun K hK => ?_) ?_
            · skip
              refine step_append_led rfl _ _ 30 rfl (a2.out) 0 rfl Try.underlying30 hi hz0 hz1 (by rw [hz2]; decide) rfl rfl rfl (((a2.out).seesRS 3 rfl).take (k := (q + 1)) HP4.out) ((by first | (simp; done) | (simp; omega))) (by have := (a2.out).bl.size; simp at *; omega) ?_
              intro A3 c4 v5 h6
              rw [show ([] : List (Int × Sl)).length + (q + 1) = (q + 1) by simp, List.nil_append] at h6
              rw [show ([] : List (Int × Sl)).length + (q + 1) = (q + 1) by simp]
              have k7 := hid h6
              clear h6
              refine hK.out _ _ (ptS_of k7.out 1 4 rfl rfl (by decide)) (fun hHeld => ?_)
              clear hK K
              try simp only [Act.put, List.getElem_toArray, List.getElem_cons_zero, List.getElem_cons_succ, List.setIfInBounds_toArray, List.set_cons_zero, List.set_cons_succ]
              refine wpAnyX_ready (rs := [10]) (by kernel_rfl) (by simp) ?_
              refine AllReadyX.cons rfl (fun K hK => ?_) AllReadyX.nil
              have u8 := hid ((k7.out).blk_ (v5.heap.size) (by simp) 35 #[.int .i64 (s : Int), .slice B ids.length e])
              go_simp
              go_wp2_with fail
              refine hK.out _ _ (ptS_of u8.out 2 5 rfl rfl (by decide)) (fun hHeld => ?_)
              clear hK K
              try simp only [Act.put, List.getElem_toArray, List.getElem_cons_zero, List.getElem_cons_succ, List.setIfInBounds_toArray, List.set_cons_zero, List.set_cons_succ]
              refine wpAnyX_ready (rs := [11]) (by kernel_rfl) (by simp) ?_
              refine AllReadyX.cons rfl (fun K hK => ?_) AllReadyX.nil
              refine step_append_led rfl _ _ 30 rfl (u8.out) 1 rfl Try.underlying30 hi hz0 hz1 (by rw [hz2]; decide) rfl rfl rfl (sees_rt ((u8.out).get 0 rfl)) ((by rw [HT.out]; omega)) (by have := (u8.out).bl.size; simp at *; omega) ?_
              intro A10 c11 v12 h13
              rw [HT.out] at h13
              rw [HT.out]
              have k14 := hid h13
              clear h13
              refine hK.out _ _ (ptS_of k14.out 2 5 rfl rfl (by decide)) (fun hHeld => ?_)
              clear hK K
              try simp only [Act.put, List.getElem_toArray, List.getElem_cons_zero, List.getElem_cons_succ, List.setIfInBounds_toArray, List.set_cons_zero, List.set_cons_succ]
              refine wpAnyX_ready (rs := [18]) (by kernel_rfl) (by simp) ?_
              refine AllReadyX.cons rfl (fun K hK => ?_) AllReadyX.nil
              refine step_append_led rfl _ _ 30 rfl (k14.out) 1 rfl Try.underlying30 hi hz0 hz1 (by rw [hz2]; decide) rfl rfl rfl ((Sees.backZ ((k14.out).seesRS 4 rfl) HZ.out)) ((by rw [List.length_append, HT.out]; simp; omega)) (by have := (k14.out).bl.size; simp at *; omega) ?_
              intro A15 c16 v17 h18
              rw [show (ss.take (q + 1) ++ [((s : Int), (⟨B, ids.length, e⟩ : Sl))]).length + (0) = l.length + 1 by rw [List.length_append, HT.out]; have := HP4.out; simp; try omega] at h18 ⊢
              have k19 := hid h18
              clear h18
              refine hK.out _ _ (ptS_of k19.out 2 5 rfl rfl (by decide)) (fun hHeld => ?_)
              clear hK K
              try simp only [Act.put, List.getElem_toArray, List.getElem_cons_zero, List.getElem_cons_succ, List.setIfInBounds_toArray, List.set_cons_zero, List.set_cons_succ]
              refine wpAnyX_ready (rs := [19]) (by kernel_rfl) (by simp) ?_
              refine AllReadyX.cons rfl (fun K hK => ?_) AllReadyX.nil
              go_simp
              refine hK.out _ _ (ptS_of k19.out 2 5 rfl rfl (by decide)) (fun hHeld => ?_)
              clear hK K
              try simp only [Act.put, List.getElem_toArray, List.getElem_cons_zero, List.getElem_cons_succ, List.setIfInBounds_toArray, List.set_cons_zero, List.set_cons_succ]
              refine wpAnyX_take (i := 20) (oi := _) (v := ?_) rfl (by kernel_rfl) (by kernel_rfl) (by kernel_rfl) (by kernel_rfl) (fun _ _ _ h => h) (Or.inl ⟨by rfl, ?_⟩) (by assumption) ?_
              rotate_left
              · intro w hSw; go_simp; with_reducible rfl
              simp only [Act.put, List.getElem_toArray, List.getElem_cons_zero, List.getElem_cons_succ, List.setIfInBounds_toArray, List.set_cons_zero, List.set_cons_succ]
              have q1 := (k19.out).cell 5 3 rfl rfl
              have z1 := (k19.out).frozen 5 3 rfl
              have k1 := hid ((k19.out).set 5 rfl 3 (.slice A15 (l.length + 1) c16))
              refine wpAnyX_ready (rs := [21]) (by kernel_rfl) (by simp) ?_
              refine AllReadyX.last rfl (fun K hK => ?_)
              go_simp
              refine hK.out _ _ ?_
              clear hK K
              try simp only [Act.put, List.getElem_toArray, List.getElem_cons_zero, List.getElem_cons_succ, List.setIfInBounds_toArray, List.set_cons_zero, List.set_cons_succ]
              refine wpAnyX_done (by kernel_rfl) ?_ _
              have k2 := Led.front (P := [_, _, _, _, _, _]) (R := R) k1.out [1, 3, 4, 5] (by decide) rfl
              have k3 := hid (Led.relist (p := (q + 1)) (s0 := ((s : Int), (⟨B, ids.length, e⟩ : Sl))) (r0 := ((s : Int), ids)) (R := tBlk gx 133 (srX A n c A' m d to (.slice A15 (l.length + 1) c16)) :: R) (show Led w0 _ (tOwns elRt w0.heap.size 35 (.slice A15 (l.length + 1) c16) (putAt ss (q + 1) ((s : Int), (⟨B, ids.length, e⟩ : Sl))) :: tOwns elInt b 3 (.slice B ids.length e) ids :: tRS w0.heap.size (.slice (some ⟨gv, go, none⟩) l.length (q + 1)) ss (l.map fun r => ((s : Int), r)) :: tBlk gx 133 (srX A n c A' m d to (.slice A15 (l.length + 1) c16)) :: R) from by rw [HPU.out]; exact k2) HPS.out rfl hbb (Nat.le_refl _))
              clear k1 k2 q1 z1
              go_wp2_with fail
              go_end0
              refine ⟨rfl, .slice A15 (l.length + 1) c16, putAt ss (q + 1) ((s : Int), (⟨B, ids.length, e⟩ : Sl)), ?_⟩
              have e1 : (insR fs (s : Int) l ids).map (fun r => ((s : Int), r)) = putAt (l.map fun r => ((s : Int), r)) (q + 1) ((s : Int), ids) := by unfold insR; rw [HPL.out, putAt_map]
              rw [e1]
              exact k3.out
            refine AllReadyX.cons rfl (fun K hK => ?_) AllReadyX.nil
            have u20 := hid ((u1.out).blk_ (wq.heap.size + 1) (by simp) 35 #[.int .i64 (s : Int), .slice B ids.length e])
            have a21 := hid (u20.out.step (Cls.drew _))
            go_simp
            go_wp2_with fail
            refine hK.out _ _ (ptS_of a21.out 2 5 rfl rfl (by decide)) (fun hHeld => ?_)
            clear hK K
            try simp only [Act.put, List.getElem_toArray, List.getElem_cons_zero, List.getElem_cons_succ, List.setIfInBounds_toArray, List.set_cons_zero, List.set_cons_succ]
            refine wpAnyX_ready (rs := [8]) (by kernel_rfl) (by simp) ?_
            refine AllReadyX.cons rfl (fun K hK => ?_) AllReadyX.nil
            refine step_append_led rfl _ _ 30 rfl (a21.out) 1 rfl Try.underlying30 hi hz0 hz1 (by rw [hz2]; decide) rfl rfl rfl (((a21.out).seesRS 4 rfl).take (k := (q + 1)) HP4.out) ((by first | (simp; done) | (simp; omega))) (by have := (a21.out).bl.size; simp at *; omega) ?_
            intro A22 c23 v24 h25
            rw [show ([] : List (Int × Sl)).length + (q + 1) = (q + 1) by simp, List.nil_append] at h25
            rw [show ([] : List (Int × Sl)).length + (q + 1) = (q + 1) by simp]
            have k26 := hid h25
            clear h25
            refine hK.out _ _ (ptS_of k26.out 2 5 rfl rfl (by decide)) (fun hHeld => ?_)
            clear hK K
            try simp only [Act.put, List.getElem_toArray, List.getElem_cons_zero, List.getElem_cons_succ, List.setIfInBounds_toArray, List.set_cons_zero, List.set_cons_succ]
            refine wpAnyX_ready (rs := [11]) (by kernel_rfl) (by simp) ?_
            refine AllReadyX.cons rfl (fun K hK => ?_) AllReadyX.nil
            refine step_append_led rfl _ _ 30 rfl (k26.out) 1 rfl Try.underlying30 hi hz0 hz1 (by rw [hz2]; decide) rfl rfl rfl (sees_rt ((k26.out).get 0 rfl)) ((by rw [HT.out]; omega)) (by have := (k26.out).bl.size; simp at *; omega) ?_
            intro A27 c28 v29 h30
            rw [HT.out] at h30
            rw [HT.out]
            have k31 := hid h30
            clear h30
            refine hK.out _ _ (ptS_of k31.out 2 5 rfl rfl (by decide)) (fun hHeld => ?_)
            clear hK K
            try simp only [Act.put, List.getElem_toArray, List.getElem_cons_zero, List.getElem_cons_succ, List.setIfInBounds_toArray, List.set_cons_zero, List.set_cons_succ]
            refine wpAnyX_ready (rs := [18]) (by kernel_rfl) (by simp) ?_
            refine AllReadyX.cons rfl (fun K hK => ?_) AllReadyX.nil
            refine step_append_led rfl _ _ 30 rfl (k31.out) 1 rfl Try.underlying30 hi hz0 hz1 (by rw [hz2]; decide) rfl rfl rfl ((Sees.backZ ((k31.out).seesRS 4 rfl) HZ.out)) ((by rw [List.length_append, HT.out]; simp; omega)) (by have := (k31.out).bl.size; simp at *; omega) ?_
            intro A32 c33 v34 h35
            rw [show (ss.take (q + 1) ++ [((s : Int), (⟨B, ids.length, e⟩ : Sl))]).length + (0) = l.length + 1 by rw [List.length_append, HT.out]; have := HP4.out; simp; try omega] at h35 ⊢
            have k36 := hid h35
            clear h35
            refine hK.out _ _ (ptS_of k36.out 2 5 rfl rfl (by decide)) (fun hHeld => ?_)
            clear hK K
            try simp only [Act.put, List.getElem_toArray, List.getElem_cons_zero, List.getElem_cons_succ, List.setIfInBounds_toArray, List.set_cons_zero, List.set_cons_succ]
            refine wpAnyX_ready (rs := [19]) (by kernel_rfl) (by simp) ?_
            refine AllReadyX.cons rfl (fun K hK => ?_) AllReadyX.nil
            go_simp
            refine hK.out _ _ (ptS_of k36.out 2 5 rfl rfl (by decide)) (fun hHeld => ?_)
            clear hK K
            try simp only [Act.put, List.getElem_toArray, List.getElem_cons_zero, List.getElem_cons_succ, List.setIfInBounds_toArray, List.set_cons_zero, List.set_cons_succ]
            refine wpAnyX_take (i := 20) (oi := _) (v := ?_) rfl (by kernel_rfl) (by kernel_rfl) (by kernel_rfl) (by kernel_rfl) (fun _ _ _ h => h) (Or.inl ⟨by rfl, ?_⟩) (by assumption) ?_
            rotate_left
            · intro w hSw; go_simp; with_reducible rfl
            simp only [Act.put, List.getElem_toArray, List.getElem_cons_zero, List.getElem_cons_succ, List.setIfInBounds_toArray, List.set_cons_zero, List.set_cons_succ]
            have q1 := (k36.out).cell 5 3 rfl rfl
            have z1 := (k36.out).frozen 5 3 rfl
            have k1 := hid ((k36.out).set 5 rfl 3 (.slice A32 (l.length + 1) c33))
            refine wpAnyX_ready (rs := [21]) (by kernel_rfl) (by simp) ?_
            refine AllReadyX.last rfl (fun K hK => ?_)
            go_simp
            refine hK.out _ _ ?_
            clear hK K
            try simp only [Act.put, List.getElem_toArray, List.getElem_cons_zero, List.getElem_cons_succ, List.setIfInBounds_toArray, List.set_cons_zero, List.set_cons_succ]
            refine wpAnyX_done (by kernel_rfl) ?_ _
            have k2 := Led.front (P := [_, _, _, _, _, _]) (R := R) k1.out [1, 3, 4, 5] (by decide) rfl
            have k3 := hid (Led.relist (p := (q + 1)) (s0 := ((s : Int), (⟨B, ids.length, e⟩ : Sl))) (r0 := ((s : Int), ids)) (R := tBlk gx 133 (srX A n c A' m d to (.slice A32 (l.length + 1) c33)) :: R) (show Led w0 _ (tOwns elRt w0.heap.size 35 (.slice A32 (l.length + 1) c33) (putAt ss (q + 1) ((s : Int), (⟨B, ids.length, e⟩ : Sl))) :: tOwns elInt b 3 (.slice B ids.length e) ids :: tRS w0.heap.size (.slice (some ⟨gv, go, none⟩) l.length (q + 1)) ss (l.map fun r => ((s : Int), r)) :: tBlk gx 133 (srX A n c A' m d to (.slice A32 (l.length + 1) c33)) :: R) from by rw [HPU.out]; exact k2) HPS.out rfl hbb (Nat.le_refl _))
            clear k1 k2 q1 z1
            go_wp2_with fail
            go_end0
            refine ⟨rfl, .slice A32 (l.length + 1) c33, putAt ss (q + 1) ((s : Int), (⟨B, ids.length, e⟩ : Sl)), ?_⟩
            have e1 : (insR fs (s : Int) l ids).map (fun r => ((s : Int), r)) = putAt (l.map fun r => ((s : Int), r)) (q + 1) ((s : Int), ids) := by unfold insR; rw [HPL.out, putAt_map]
            rw [e1]
            exact k3.out
          refine AllReadyX.cons rfl (fun K hK => ?_) AllReadyX.nil
          have u37 := hid ((HS4.out).blk_ (wq.heap.size) (by simp) 35 #[.int .i64 (s : Int), .slice B ids.length e])
          have a38 := hid (u37.out.step (Cls.drew _))
          go_simp
          go_wp2_with fail
          refine hK.out _ _ (ptS_of a38.out 1 4 rfl rfl (by decide)) (fun hHeld => ?_)
          clear hK K
          try simp only [Act.put, List.getElem_toArray, List.getElem_cons_zero, List.getElem_cons_succ, List.setIfInBounds_toArray, List.set_cons_zero, List.set_cons_succ]
          refine wpAnyX_ready (rs := [1]) (by kernel_rfl) (by simp) ?_
          refine AllReadyX.cons rfl (fun K hK => ?_) AllReadyX.nil
          have u39 := hid ((u37.out).empty elRt 35 (wq.heap.size + 1) (by simp) w0.heap.size (by have := HS4.out.bl.size; have := (u37.out).bl.size; simp at *; omega))
          have a40 := hid (u39.out.step (Cls.drew _))
          go_simp
          go_wp2_with fail
          refine hK.out _ _ (ptS_of a40.out 2 5 rfl rfl (by decide)) (fun hHeld => ?_)
          clear hK K
          try simp only [Act.put, List.getElem_toArray, List.getElem_cons_zero, List.getElem_cons_succ, List.setIfInBounds_toArray, List.set_cons_zero, List.set_cons_succ]
          refine wpAnyX_ready (rs := [8]) (by kernel_rfl) (by simp) ?_
          refine AllReadyX.cons rfl (fun K hK => ?_) AllReadyX.nil
          refine step_append_led rfl _ _ 30 rfl (a40.out) 0 rfl Try.underlying30 hi hz0 hz1 (by rw [hz2]; decide) rfl rfl rfl (((a40.out).seesRS 4 rfl).take (k := (q + 1)) HP4.out) ((by first | (simp; done) | (simp; omega))) (by have := (a40.out).bl.size; simp at *; omega) ?_
          intro A41 c42 v43 h44
          rw [show ([] : List (Int × Sl)).length + (q + 1) = (q + 1) by simp, List.nil_append] at h44
          rw [show ([] : List (Int × Sl)).length + (q + 1) = (q + 1) by simp]
          have k45 := hid h44
          clear h44
          refine hK.out _ _ (ptS_of k45.out 2 5 rfl rfl (by decide)) (fun hHeld => ?_)
          clear hK K
          try simp only [Act.put, List.getElem_toArray, List.getElem_cons_zero, List.getElem_cons_succ, List.setIfInBounds_toArray, List.set_cons_zero, List.set_cons_succ]
          refine wpAnyX_ready (rs := [11]) (by kernel_rfl) (by simp) ?_
          refine AllReadyX.cons rfl (fun K hK => ?_) AllReadyX.nil
          refine step_append_led rfl _ _ 30 rfl (k45.out) 0 rfl Try.underlying30 hi hz0 hz1 (by rw [hz2]; decide) rfl rfl rfl (sees_rt ((k45.out).get 1 rfl)) ((by rw [HT.out]; omega)) (by have := (k45.out).bl.size; simp at *; omega) ?_
          intro A46 c47 v48 h49
          rw [HT.out] at h49
          rw [HT.out]
          have k50 := hid h49
          clear h49
          refine hK.out _ _ (ptS_of k50.out 2 5 rfl rfl (by decide)) (fun hHeld => ?_)
          clear hK K
          try simp only [Act.put, List.getElem_toArray, List.getElem_cons_zero, List.getElem_cons_succ, List.setIfInBounds_toArray, List.set_cons_zero, List.set_cons_succ]
          refine wpAnyX_ready (rs := [18]) (by kernel_rfl) (by simp) ?_
          refine AllReadyX.cons rfl (fun K hK => ?_) AllReadyX.nil
          refine step_append_led rfl _ _ 30 rfl (k50.out) 0 rfl Try.underlying30 hi hz0 hz1 (by rw [hz2]; decide) rfl rfl rfl ((Sees.backZ ((k50.out).seesRS 4 rfl) HZ.out)) ((by rw [List.length_append, HT.out]; simp; omega)) (by have := (k50.out).bl.size; simp at *; omega) ?_
          intro A51 c52 v53 h54
          rw [show (ss.take (q + 1) ++ [((s : Int), (⟨B, ids.length, e⟩ : Sl))]).length + (0) = l.length + 1 by rw [List.length_append, HT.out]; have := HP4.out; simp; try omega] at h54 ⊢
          have k55 := hid h54
          clear h54
          refine hK.out _ _ (ptS_of k55.out 2 5 rfl rfl (by decide)) (fun hHeld => ?_)
          clear hK K
          try simp only [Act.put, List.getElem_toArray, List.getElem_cons_zero, List.getElem_cons_succ, List.setIfInBounds_toArray, List.set_cons_zero, List.set_cons_succ]
          refine wpAnyX_ready (rs := [19]) (by kernel_rfl) (by simp) ?_
          refine AllReadyX.cons rfl (fun K hK => ?_) AllReadyX.nil
          go_simp
          refine hK.out _ _ (ptS_of k55.out 2 5 rfl rfl (by decide)) (fun hHeld => ?_)
          clear hK K
          try simp only [Act.put, List.getElem_toArray, List.getElem_cons_zero, List.getElem_cons_succ, List.setIfInBounds_toArray, List.set_cons_zero, List.set_cons_succ]
          refine wpAnyX_take (i := 20) (oi := _) (v := ?_) rfl (by kernel_rfl) (by kernel_rfl) (by kernel_rfl) (by kernel_rfl) (fun _ _ _ h => h) (Or.inl ⟨by rfl, ?_⟩) (by assumption) ?_
          rotate_left
          · intro w hSw; go_simp; with_reducible rfl
          simp only [Act.put, List.getElem_toArray, List.getElem_cons_zero, List.getElem_cons_succ, List.setIfInBounds_toArray, List.set_cons_zero, List.set_cons_succ]
          have q1 := (k55.out).cell 5 3 rfl rfl
          have z1 := (k55.out).frozen 5 3 rfl
          have k1 := hid ((k55.out).set 5 rfl 3 (.slice A51 (l.length + 1) c52))
          refine wpAnyX_ready (rs := [21]) (by kernel_rfl) (by simp) ?_
          refine AllReadyX.last rfl (fun K hK => ?_)
          go_simp
          refine hK.out _ _ ?_
          clear hK K
          try simp only [Act.put, List.getElem_toArray, List.getElem_cons_zero, List.getElem_cons_succ, List.setIfInBounds_toArray, List.set_cons_zero, List.set_cons_succ]
          refine wpAnyX_done (by kernel_rfl) ?_ _
          have k2 := Led.front (P := [_, _, _, _, _, _]) (R := R) k1.out [0, 3, 4, 5] (by decide) rfl
          have k3 := hid (Led.relist (p := (q + 1)) (s0 := ((s : Int), (⟨B, ids.length, e⟩ : Sl))) (r0 := ((s : Int), ids)) (R := tBlk gx 133 (srX A n c A' m d to (.slice A51 (l.length + 1) c52)) :: R) (show Led w0 _ (tOwns elRt w0.heap.size 35 (.slice A51 (l.length + 1) c52) (putAt ss (q + 1) ((s : Int), (⟨B, ids.length, e⟩ : Sl))) :: tOwns elInt b 3 (.slice B ids.length e) ids :: tRS w0.heap.size (.slice (some ⟨gv, go, none⟩) l.length (q + 1)) ss (l.map fun r => ((s : Int), r)) :: tBlk gx 133 (srX A n c A' m d to (.slice A51 (l.length + 1) c52)) :: R) from by rw [HPU.out]; exact k2) HPS.out rfl hbb (Nat.le_refl _))
          clear k1 k2 q1 z1
          go_wp2_with fail
          go_end0
          refine ⟨rfl, .slice A51 (l.length + 1) c52, putAt ss (q + 1) ((s : Int), (⟨B, ids.length, e⟩ : Sl)), ?_⟩
          have e1 : (insR fs (s : Int) l ids).map (fun r => ((s : Int), r)) = putAt (l.map fun r => ((s : Int), r)) (q + 1) ((s : Int), ids) := by unfold insR; rw [HPL.out, putAt_map]
          rw [e1]
          exact k3.out
        · have ik2 : (q : Int) + 1 ≤ (cV : Int) := by omega
          have hbz := Below.refl 0 wq
          obtain ⟨i0, hi, hz0, hz1, hz2⟩ := info_parts rt_info
          have E0 : ∀ w', ptS w0 gx w.heap.size A n c A' m d to s (.slice (some ⟨gv, go, none⟩) l.length cV) B ids.length e w' → w'.cell? ⟨w.heap.size, 0, none⟩ = some (.int .i64 (s : Int)) := fun _ h => Led.cell h 0 0 rfl rfl
          have E1 : ∀ w', ptS w0 gx w.heap.size A n c A' m d to s (.slice (some ⟨gv, go, none⟩) l.length cV) B ids.length e w' → w'.cell? ⟨w.heap.size, 1, none⟩ = some (.slice B ids.length e) := fun _ h => Led.cell h 0 1 rfl rfl
          have E2 : ∀ w', ptS w0 gx w.heap.size A n c A' m d to s (.slice (some ⟨gv, go, none⟩) l.length cV) B ids.length e w' → w'.cell? ⟨gx, 3, none⟩ = some (.slice (some ⟨gv, go, none⟩) l.length cV) := fun _ h => Led.cell h 1 3 rfl rfl
          have HM := hid (mem_ptS (HS4.out.step (Cls.drew wq)))
          refine wp_region_heldX 21 (ptS w0 gx w.heap.size A n c A' m d to s (.slice (some ⟨gv, go, none⟩) l.length cV) B ids.length e) (by kernel_rfl) (HM.out) (fun hHeld => ?_)
          refine wpAnyX_take (i := 0) (oi := _) (v := ?_) rfl (by kernel_rfl) (by kernel_rfl) (by kernel_rfl) (by kernel_rfl) (fun _ _ _ h => h) (Or.inl ⟨by rfl, ?_⟩) (by assumption) ?_
          rotate_left
          · intro w hSw; go_simp; with_reducible rfl
          simp only [Act.put, List.getElem_toArray, List.getElem_cons_zero, List.setIfInBounds_toArray, List.set_cons_zero, List.set_cons_succ]
          refine wpAnyX_take (i := 2) (oi := _) (v := ?_) rfl (by kernel_rfl) (by kernel_rfl) (by kernel_rfl) (by kernel_rfl) (fun _ _ _ h => h) (Or.inl ⟨by rfl, ?_⟩) (by assumption) ?_
          rotate_left
          · intro w hSw; go_simp; with_reducible rfl
          simp only [Act.put, List.getElem_toArray, List.getElem_cons_zero, List.getElem_cons_succ, List.setIfInBounds_toArray, List.set_cons_zero, List.set_cons_succ]
          refine wpAnyX_take (i := 3) (oi := _) (v := ?_) rfl (by kernel_rfl) (by kernel_rfl) (by kernel_rfl) (by kernel_rfl) (fun _ _ _ h => h) (Or.inl ⟨by rfl, ?_⟩) (by assumption) ?_
          rotate_left
          · intro w hSw; go_simp; with_reducible rfl
          simp only [Act.put, List.getElem_toArray, List.getElem_cons_zero, List.getElem_cons_succ, List.setIfInBounds_toArray, List.set_cons_zero, List.set_cons_succ]
          refine wpAnyX_take (i := 4) (oi := _) (v := ?_) rfl (by kernel_rfl) (by kernel_rfl) (by kernel_rfl) (by kernel_rfl) (fun _ _ _ h => h) (Or.inl ⟨by rfl, ?_⟩) (by assumption) ?_
          rotate_left
          · intro w hSw; go_simp; with_reducible rfl
          simp only [Act.put, List.getElem_toArray, List.getElem_cons_zero, List.getElem_cons_succ, List.setIfInBounds_toArray, List.set_cons_zero, List.set_cons_succ]
          refine wpAnyX_take (i := 5) (oi := _) (v := ?_) rfl (by kernel_rfl) (by kernel_rfl) (by kernel_rfl) (by kernel_rfl) (fun _ _ _ h => h) (Or.inl ⟨by rfl, ?_⟩) (by assumption) ?_
          rotate_left
          · intro w hSw; go_simp; with_reducible rfl
          simp only [Act.put, List.getElem_toArray, List.getElem_cons_zero, List.getElem_cons_succ, List.setIfInBounds_toArray, List.set_cons_zero, List.set_cons_succ]
          refine wpAnyX_take (i := 6) (oi := _) (v := ?_) rfl (by kernel_rfl) (by kernel_rfl) (by kernel_rfl) (by kernel_rfl) (fun _ _ _ h => h) (Or.inl ⟨by rfl, ?_⟩) (by assumption) ?_
          rotate_left
          · intro w hSw; go_simp; with_reducible rfl
          simp only [Act.put, List.getElem_toArray, List.getElem_cons_zero, List.getElem_cons_succ, List.setIfInBounds_toArray, List.set_cons_zero, List.set_cons_succ]
          refine wpAnyX_take (i := 7) (oi := _) (v := ?_) rfl (by kernel_rfl) (by kernel_rfl) (by kernel_rfl) (by kernel_rfl) (fun _ _ _ h => h) (Or.inl ⟨by rfl, ?_⟩) (by assumption) ?_
          rotate_left
          · intro w hSw; go_simp; with_reducible rfl
          simp only [Act.put, List.getElem_toArray, List.getElem_cons_zero, List.getElem_cons_succ, List.setIfInBounds_toArray, List.set_cons_zero, List.set_cons_succ]
          refine wpAnyX_take (i := 9) (oi := _) (v := ?_) rfl (by kernel_rfl) (by kernel_rfl) (by kernel_rfl) (by kernel_rfl) (fun _ _ _ h => h) (Or.inl ⟨by rfl, ?_⟩) (by assumption) ?_
          rotate_left
          · intro w hSw; go_simp; with_reducible rfl
          simp only [Act.put, List.getElem_toArray, List.getElem_cons_zero, List.getElem_cons_succ, List.setIfInBounds_toArray, List.set_cons_zero, List.set_cons_succ]
          refine wpAnyX_take (i := 12) (oi := _) (v := ?_) rfl (by kernel_rfl) (by kernel_rfl) (by kernel_rfl) (by kernel_rfl) (fun _ _ _ h => h) (Or.inl ⟨by rfl, ?_⟩) (by assumption) ?_
          rotate_left
          · intro w hSw; go_simp; with_reducible rfl
          simp only [Act.put, List.getElem_toArray, List.getElem_cons_zero, List.getElem_cons_succ, List.setIfInBounds_toArray, List.set_cons_zero, List.set_cons_succ]
          refine wpAnyX_take (i := 13) (oi := _) (v := ?_) rfl (by kernel_rfl) (by kernel_rfl) (by kernel_rfl) (by kernel_rfl) (fun _ _ _ h => h) (Or.inl ⟨by rfl, ?_⟩) (by assumption) ?_
          rotate_left
          · intro w hSw; go_simp; with_reducible rfl
          simp only [Act.put, List.getElem_toArray, List.getElem_cons_zero, List.getElem_cons_succ, List.setIfInBounds_toArray, List.set_cons_zero, List.set_cons_succ]
          refine wpAnyX_take (i := 14) (oi := _) (v := ?_) rfl (by kernel_rfl) (by kernel_rfl) (by kernel_rfl) (by kernel_rfl) (fun _ _ _ h => h) (Or.inl ⟨by rfl, ?_⟩) (by assumption) ?_
          rotate_left
          · intro w hSw; go_simp; with_reducible rfl
          simp only [Act.put, List.getElem_toArray, List.getElem_cons_zero, List.getElem_cons_succ, List.setIfInBounds_toArray, List.set_cons_zero, List.set_cons_succ]
          refine wpAnyX_take (i := 15) (oi := _) (v := ?_) rfl (by kernel_rfl) (by kernel_rfl) (by kernel_rfl) (by kernel_rfl) (fun _ _ _ h => h) (Or.inl ⟨by rfl, ?_⟩) (by assumption) ?_
          rotate_left
          · intro w hSw; go_simp; with_reducible rfl
          simp only [Act.put, List.getElem_toArray, List.getElem_cons_zero, List.getElem_cons_succ, List.setIfInBounds_toArray, List.set_cons_zero, List.set_cons_succ]
          refine wpAnyX_take (i := 16) (oi := _) (v := ?_) rfl (by kernel_rfl) (by kernel_rfl) (by kernel_rfl) (by kernel_rfl) (fun _ _ _ h => h) (Or.inl ⟨by rfl, ?_⟩) (by assumption) ?_
          rotate_left
          · intro w hSw; go_simp; with_reducible rfl
          simp only [Act.put, List.getElem_toArray, List.getElem_cons_zero, List.getElem_cons_succ, List.setIfInBounds_toArray, List.set_cons_zero, List.set_cons_succ]
          refine wpAnyX_take (i := 17) (oi := _) (v := ?_) rfl (by kernel_rfl) (by kernel_rfl) (by kernel_rfl) (by kernel_rfl) (fun _ _ _ h => h) (Or.inl ⟨by rfl, ?_⟩) (by assumption) ?_
          rotate_left
          · intro w hSw; go_simp; with_reducible rfl
          simp only [Act.put, List.getElem_toArray, List.getElem_cons_zero, List.getElem_cons_succ, List.setIfInBounds_toArray, List.set_cons_zero, List.set_cons_succ]
          refine wpAnyX_ready (rs := [1, 10]) (by kernel_rfl) (by simp) ?_
          refine AllReadyX.cons rfl (fun K hK => ?_) ?_
          · skip
            have u1 := hid ((HS4.out).empty elRt 35 (wq.heap.size) (by simp) w0.heap.size (by have := HS4.out.bl.size; have := (HS4.out).bl.size; simp at *; omega))
            have a2 := hid (u1.out.step (Cls.drew _))
            go_simp
            go_wp2_with fail
            refine hK.out _ _ (ptS_of a2.out 1 4 rfl rfl (by decide)) (fun hHeld => ?_)
            clear hK K
            try simp only [Act.put, List.getElem_toArray, List.getElem_cons_zero, List.getElem_cons_succ, List.setIfInBounds_toArray, List.set_cons_zero, List.set_cons_succ]
            refine wpAnyX_ready (rs := [8, 10]) (by kernel_rfl) (by simp) ?_
            refine AllReadyX.cons rfl (fun K hK => ?_) ?_
            · skip
              refine step_append_led rfl _ _ 30 rfl (a2.out) 0 rfl Try.underlying30 hi hz0 hz1 (by rw [hz2]; decide) rfl rfl rfl (((a2.out).seesRS 3 rfl).take (k := (q + 1)) HP4.out) ((by first | (simp; done) | (simp; omega))) (by have := (a2.out).bl.size; simp at *; omega) ?_
              intro A3 c4 v5 h6
              rw [show ([] : List (Int × Sl)).length + (q + 1) = (q + 1) by simp, List.nil_append] at h6
              rw [show ([] : List (Int × Sl)).length + (q + 1) = (q + 1) by simp]
              have k7 := hid h6
              clear h6
              refine hK.out _ _ (ptS_of k7.out 1 4 rfl rfl (by decide)) (fun hHeld => ?_)
              clear hK K
              try simp only [Act.put, List.getElem_toArray, List.getElem_cons_zero, List.getElem_cons_succ, List.setIfInBounds_toArray, List.set_cons_zero, List.set_cons_succ]
              refine wpAnyX_ready (rs := [10]) (by kernel_rfl) (by simp) ?_
              refine AllReadyX.cons rfl (fun K hK => ?_) AllReadyX.nil
              have u8 := hid ((k7.out).blk_ (v5.heap.size) (by simp) 35 #[.int .i64 (s : Int), .slice B ids.length e])
              go_simp
              go_wp2_with fail
              refine hK.out _ _ (ptS_of u8.out 2 5 rfl rfl (by decide)) (fun hHeld => ?_)
              clear hK K
              try simp only [Act.put, List.getElem_toArray, List.getElem_cons_zero, List.getElem_cons_succ, List.setIfInBounds_toArray, List.set_cons_zero, List.set_cons_succ]
              refine wpAnyX_ready (rs := [11]) (by kernel_rfl) (by simp) ?_
              refine AllReadyX.cons rfl (fun K hK => ?_) AllReadyX.nil
              refine step_append_led rfl _ _ 30 rfl (u8.out) 1 rfl Try.underlying30 hi hz0 hz1 (by rw [hz2]; decide) rfl rfl rfl (sees_rt ((u8.out).get 0 rfl)) ((by rw [HT.out]; omega)) (by have := (u8.out).bl.size; simp at *; omega) ?_
              intro A10 c11 v12 h13
              rw [HT.out] at h13
              rw [HT.out]
              have k14 := hid h13
              clear h13
              refine hK.out _ _ (ptS_of k14.out 2 5 rfl rfl (by decide)) (fun hHeld => ?_)
              clear hK K
              try simp only [Act.put, List.getElem_toArray, List.getElem_cons_zero, List.getElem_cons_succ, List.setIfInBounds_toArray, List.set_cons_zero, List.set_cons_succ]
              refine wpAnyX_ready (rs := [18]) (by kernel_rfl) (by simp) ?_
              refine AllReadyX.cons rfl (fun K hK => ?_) AllReadyX.nil
              refine step_append_led rfl _ _ 30 rfl (k14.out) 1 rfl Try.underlying30 hi hz0 hz1 (by rw [hz2]; decide) rfl rfl rfl ((Sees.backR ((k14.out).seesRS 4 rfl) HP4.out)) ((by rw [List.length_append, HT.out]; simp; omega)) (by have := (k14.out).bl.size; simp at *; omega) ?_
              intro A15 c16 v17 h18
              rw [show (ss.take (q + 1) ++ [((s : Int), (⟨B, ids.length, e⟩ : Sl))]).length + (l.length - (q + 1)) = l.length + 1 by rw [List.length_append, HT.out]; have := HP4.out; simp; try omega] at h18 ⊢
              have k19 := hid h18
              clear h18
              refine hK.out _ _ (ptS_of k19.out 2 5 rfl rfl (by decide)) (fun hHeld => ?_)
              clear hK K
              try simp only [Act.put, List.getElem_toArray, List.getElem_cons_zero, List.getElem_cons_succ, List.setIfInBounds_toArray, List.set_cons_zero, List.set_cons_succ]
              refine wpAnyX_ready (rs := [19]) (by kernel_rfl) (by simp) ?_
              refine AllReadyX.cons rfl (fun K hK => ?_) AllReadyX.nil
              go_simp
              refine hK.out _ _ (ptS_of k19.out 2 5 rfl rfl (by decide)) (fun hHeld => ?_)
              clear hK K
              try simp only [Act.put, List.getElem_toArray, List.getElem_cons_zero, List.getElem_cons_succ, List.setIfInBounds_toArray, List.set_cons_zero, List.set_cons_succ]
              refine wpAnyX_take (i := 20) (oi := _) (v := ?_) rfl (by kernel_rfl) (by kernel_rfl) (by kernel_rfl) (by kernel_rfl) (fun _ _ _ h => h) (Or.inl ⟨by rfl, ?_⟩) (by assumption) ?_
              rotate_left
              · intro w hSw; go_simp; with_reducible rfl
              simp only [Act.put, List.getElem_toArray, List.getElem_cons_zero, List.getElem_cons_succ, List.setIfInBounds_toArray, List.set_cons_zero, List.set_cons_succ]
              have q1 := (k19.out).cell 5 3 rfl rfl
              have z1 := (k19.out).frozen 5 3 rfl
              have k1 := hid ((k19.out).set 5 rfl 3 (.slice A15 (l.length + 1) c16))
              refine wpAnyX_ready (rs := [21]) (by kernel_rfl) (by simp) ?_
              refine AllReadyX.last rfl (fun K hK => ?_)
              go_simp
              refine hK.out _ _ ?_
              clear hK K
              try simp only [Act.put, List.getElem_toArray, List.getElem_cons_zero, List.getElem_cons_succ, List.setIfInBounds_toArray, List.set_cons_zero, List.set_cons_succ]
              refine wpAnyX_done (by kernel_rfl) ?_ _
              have k2 := Led.front (P := [_, _, _, _, _, _]) (R := R) k1.out [1, 3, 4, 5] (by decide) rfl
              have k3 := hid (Led.relist (p := (q + 1)) (s0 := ((s : Int), (⟨B, ids.length, e⟩ : Sl))) (r0 := ((s : Int), ids)) (R := tBlk gx 133 (srX A n c A' m d to (.slice A15 (l.length + 1) c16)) :: R) (show Led w0 _ (tOwns elRt w0.heap.size 35 (.slice A15 (l.length + 1) c16) (putAt ss (q + 1) ((s : Int), (⟨B, ids.length, e⟩ : Sl))) :: tOwns elInt b 3 (.slice B ids.length e) ids :: tRS w0.heap.size (.slice (some ⟨gv, go, none⟩) l.length cV) ss (l.map fun r => ((s : Int), r)) :: tBlk gx 133 (srX A n c A' m d to (.slice A15 (l.length + 1) c16)) :: R) from by rw [HPU.out]; exact k2) HPS.out rfl hbb (Nat.le_refl _))
              clear k1 k2 q1 z1
              go_wp2_with fail
              go_end0
              refine ⟨rfl, .slice A15 (l.length + 1) c16, putAt ss (q + 1) ((s : Int), (⟨B, ids.length, e⟩ : Sl)), ?_⟩
              have e1 : (insR fs (s : Int) l ids).map (fun r => ((s : Int), r)) = putAt (l.map fun r => ((s : Int), r)) (q + 1) ((s : Int), ids) := by unfold insR; rw [HPL.out, putAt_map]
              rw [e1]
              exact k3.out
            refine AllReadyX.cons rfl (fun K hK => ?_) AllReadyX.nil
            have u20 := hid ((u1.out).blk_ (wq.heap.size + 1) (by simp) 35 #[.int .i64 (s : Int), .slice B ids.length e])
            have a21 := hid (u20.out.step (Cls.drew _))
            go_simp
            go_wp2_with fail
            refine hK.out _ _ (ptS_of a21.out 2 5 rfl rfl (by decide)) (fun hHeld => ?_)
            clear hK K
            try simp only [Act.put, List.getElem_toArray, List.getElem_cons_zero, List.getElem_cons_succ, List.setIfInBounds_toArray, List.set_cons_zero, List.set_cons_succ]
            refine wpAnyX_ready (rs := [8]) (by kernel_rfl) (by simp) ?_
            refine AllReadyX.cons rfl (fun K hK => ?_) AllReadyX.nil
            refine step_append_led rfl _ _ 30 rfl (a21.out) 1 rfl Try.underlying30 hi hz0 hz1 (by rw [hz2]; decide) rfl rfl rfl (((a21.out).seesRS 4 rfl).take (k := (q + 1)) HP4.out) ((by first | (simp; done) | (simp; omega))) (by have := (a21.out).bl.size; simp at *; omega) ?_
            intro A22 c23 v24 h25
            rw [show ([] : List (Int × Sl)).length + (q + 1) = (q + 1) by simp, List.nil_append] at h25
            rw [show ([] : List (Int × Sl)).length + (q + 1) = (q + 1) by simp]
            have k26 := hid h25
            clear h25
            refine hK.out _ _ (ptS_of k26.out 2 5 rfl rfl (by decide)) (fun hHeld => ?_)
            clear hK K
            try simp only [Act.put, List.getElem_toArray, List.getElem_cons_zero, List.getElem_cons_succ, List.setIfInBounds_toArray, List.set_cons_zero, List.set_cons_succ]
            refine wpAnyX_ready (rs := [11]) (by kernel_rfl) (by simp) ?_
            refine AllReadyX.cons rfl (fun K hK => ?_) AllReadyX.nil
            refine step_append_led rfl _ _ 30 rfl (k26.out) 1 rfl Try.underlying30 hi hz0 hz1 (by rw [hz2]; decide) rfl rfl rfl (sees_rt ((k26.out).get 0 rfl)) ((by rw [HT.out]; omega)) (by have := (k26.out).bl.size; simp at *; omega) ?_
            intro A27 c28 v29 h30
            rw [HT.out] at h30
            rw [HT.out]
            have k31 := hid h30
            clear h30
            refine hK.out _ _ (ptS_of k31.out 2 5 rfl rfl (by decide)) (fun hHeld => ?_)
            clear hK K
            try simp only [Act.put, List.getElem_toArray, List.getElem_cons_zero, List.getElem_cons_succ, List.setIfInBounds_toArray, List.set_cons_zero, List.set_cons_succ]
            refine wpAnyX_ready (rs := [18]) (by kernel_rfl) (by simp) ?_
            refine AllReadyX.cons rfl (fun K hK => ?_) AllReadyX.nil
            refine step_append_led rfl _ _ 30 rfl (k31.out) 1 rfl Try.underlying30 hi hz0 hz1 (by rw [hz2]; decide) rfl rfl rfl ((Sees.backR ((k31.out).seesRS 4 rfl) HP4.out)) ((by rw [List.length_append, HT.out]; simp; omega)) (by have := (k31.out).bl.size; simp at *; omega) ?_
            intro A32 c33 v34 h35
            rw [show (ss.take (q + 1) ++ [((s : Int), (⟨B, ids.length, e⟩ : Sl))]).length + (l.length - (q + 1)) = l.length + 1 by rw [List.length_append, HT.out]; have := HP4.out; simp; try omega] at h35 ⊢
            have k36 := hid h35
            clear h35
            refine hK.out _ _ (ptS_of k36.out 2 5 rfl rfl (by decide)) (fun hHeld => ?_)
            clear hK K
            try simp only [Act.put, List.getElem_toArray, List.getElem_cons_zero, List.getElem_cons_succ, List.setIfInBounds_toArray, List.set_cons_zero, List.set_cons_succ]
            refine wpAnyX_ready (rs := [19]) (by kernel_rfl) (by simp) ?_
            refine AllReadyX.cons rfl (fun K hK => ?_) AllReadyX.nil
            go_simp
            refine hK.out _ _ (ptS_of k36.out 2 5 rfl rfl (by decide)) (fun hHeld => ?_)
            clear hK K
            try simp only [Act.put, List.getElem_toArray, List.getElem_cons_zero, List.getElem_cons_succ, List.setIfInBounds_toArray, List.set_cons_zero, List.set_cons_succ]
            refine wpAnyX_take (i := 20) (oi := _) (v := ?_) rfl (by kernel_rfl) (by kernel_rfl) (by kernel_rfl) (by kernel_rfl) (fun _ _ _ h => h) (Or.inl ⟨by rfl, ?_⟩) (by assumption) ?_
            rotate_left
            · intro w hSw; go_simp; with_reducible rfl
            simp only [Act.put, List.getElem_toArray, List.getElem_cons_zero, List.getElem_cons_succ, List.setIfInBounds_toArray, List.set_cons_zero, List.set_cons_succ]
            have q1 := (k36.out).cell 5 3 rfl rfl
            have z1 := (k36.out).frozen 5 3 rfl
            have k1 := hid ((k36.out).set 5 rfl 3 (.slice A32 (l.length + 1) c33))
            refine wpAnyX_ready (rs := [21]) (by kernel_rfl) (by simp) ?_
            refine AllReadyX.last rfl (fun K hK => ?_)
            go_simp
            refine hK.out _ _ ?_
            clear hK K
            try simp only [Act.put, List.getElem_toArray, List.getElem_cons_zero, List.getElem_cons_succ, List.setIfInBounds_toArray, List.set_cons_zero, List.set_cons_succ]
            refine wpAnyX_done (by kernel_rfl) ?_ _
            have k2 := Led.front (P := [_, _, _, _, _, _]) (R := R) k1.out [1, 3, 4, 5] (by decide) rfl
            have k3 := hid (Led.relist (p := (q + 1)) (s0 := ((s : Int), (⟨B, ids.length, e⟩ : Sl))) (r0 := ((s : Int), ids)) (R := tBlk gx 133 (srX A n c A' m d to (.slice A32 (l.length + 1) c33)) :: R) (show Led w0 _ (tOwns elRt w0.heap.size 35 (.slice A32 (l.length + 1) c33) (putAt ss (q + 1) ((s : Int), (⟨B, ids.length, e⟩ : Sl))) :: tOwns elInt b 3 (.slice B ids.length e) ids :: tRS w0.heap.size (.slice (some ⟨gv, go, none⟩) l.length cV) ss (l.map fun r => ((s : Int), r)) :: tBlk gx 133 (srX A n c A' m d to (.slice A32 (l.length + 1) c33)) :: R) from by rw [HPU.out]; exact k2) HPS.out rfl hbb (Nat.le_refl _))
            clear k1 k2 q1 z1
            go_wp2_with fail
            go_end0
            refine ⟨rfl, .slice A32 (l.length + 1) c33, putAt ss (q + 1) ((s : Int), (⟨B, ids.length, e⟩ : Sl)), ?_⟩
            have e1 : (insR fs (s : Int) l ids).map (fun r => ((s : Int), r)) = putAt (l.map fun r => ((s : Int), r)) (q + 1) ((s : Int), ids) := by unfold insR; rw [HPL.out, putAt_map]
            rw [e1]
            exact k3.out
          refine AllReadyX.cons rfl (fun K hK => ?_) AllReadyX.nil
          have u37 := hid ((HS4.out).blk_ (wq.heap.size) (by simp) 35 #[.int .i64 (s : Int), .slice B ids.length e])
          have a38 := hid (u37.out.step (Cls.drew _))
          go_simp
          go_wp2_with fail
          refine hK.out _ _ (ptS_of a38.out 1 4 rfl rfl (by decide)) (fun hHeld => ?_)
          clear hK K
          try simp only [Act.put, List.getElem_toArray, List.getElem_cons_zero, List.getElem_cons_succ, List.setIfInBounds_toArray, List.set_cons_zero, List.set_cons_succ]
          refine wpAnyX_ready (rs := [1]) (by kernel_rfl) (by simp) ?_
          refine AllReadyX.cons rfl (fun K hK => ?_) AllReadyX.nil
          have u39 := hid ((u37.out).empty elRt 35 (wq.heap.size + 1) (by simp) w0.heap.size (by have := HS4.out.bl.size; have := (u37.out).bl.size; simp at *; omega))
          have a40 := hid (u39.out.step (Cls.drew _))
          go_simp
          go_wp2_with fail
          refine hK.out _ _ (ptS_of a40.out 2 5 rfl rfl (by decide)) (fun hHeld => ?_)
          clear hK K
          try simp only [Act.put, List.getElem_toArray, List.getElem_cons_zero, List.getElem_cons_succ, List.setIfInBounds_toArray, List.set_cons_zero, List.set_cons_succ]
          refine wpAnyX_ready (rs := [8]) (by kernel_rfl) (by simp) ?_
          refine AllReadyX.cons rfl (fun K hK => ?_) AllReadyX.nil
          refine step_append_led rfl _ _ 30 rfl (a40.out) 0 rfl Try.underlying30 hi hz0 hz1 (by rw [hz2]; decide) rfl rfl rfl (((a40.out).seesRS 4 rfl).take (k := (q + 1)) HP4.out) ((by first | (simp; done) | (simp; omega))) (by have := (a40.out).bl.size; simp at *; omega) ?_
          intro A41 c42 v43 h44
          rw [show ([] : List (Int × Sl)).length + (q + 1) = (q + 1) by simp, List.nil_append] at h44
          rw [show ([] : List (Int × Sl)).length + (q + 1) = (q + 1) by simp]
          have k45 := hid h44
          clear h44
          refine hK.out _ _ (ptS_of k45.out 2 5 rfl rfl (by decide)) (fun hHeld => ?_)
          clear hK K
          try simp only [Act.put, List.getElem_toArray, List.getElem_cons_zero, List.getElem_cons_succ, List.setIfInBounds_toArray, List.set_cons_zero, List.set_cons_succ]
          refine wpAnyX_ready (rs := [11]) (by kernel_rfl) (by simp) ?_
          refine AllReadyX.cons rfl (fun K hK => ?_) AllReadyX.nil
          refine step_append_led rfl _ _ 30 rfl (k45.out) 0 rfl Try.underlying30 hi hz0 hz1 (by rw [hz2]; decide) rfl rfl rfl (sees_rt ((k45.out).get 1 rfl)) ((by rw [HT.out]; omega)) (by have := (k45.out).bl.size; simp at *; omega) ?_
          intro A46 c47 v48 h49
          rw [HT.out] at h49
          rw [HT.out]
          have k50 := hid h49
          clear h49
          refine hK.out _ _ (ptS_of k50.out 2 5 rfl rfl (by decide)) (fun hHeld => ?_)
          clear hK K
          try simp only [Act.put, List.getElem_toArray, List.getElem_cons_zero, List.getElem_cons_succ, List.setIfInBounds_toArray, List.set_cons_zero, List.set_cons_succ]
          refine wpAnyX_ready (rs := [18]) (by kernel_rfl) (by simp) ?_
          refine AllReadyX.cons rfl (fun K hK => ?_) AllReadyX.nil
          refine step_append_led rfl _ _ 30 rfl (k50.out) 0 rfl Try.underlying30 hi hz0 hz1 (by rw [hz2]; decide) rfl rfl rfl ((Sees.backR ((k50.out).seesRS 4 rfl) HP4.out)) ((by rw [List.length_append, HT.out]; simp; omega)) (by have := (k50.out).bl.size; simp at *; omega) ?_
          intro A51 c52 v53 h54
          rw [show (ss.take (q + 1) ++ [((s : Int), (⟨B, ids.length, e⟩ : Sl))]).length + (l.length - (q + 1)) = l.length + 1 by rw [List.length_append, HT.out]; have := HP4.out; simp; try omega] at h54 ⊢
          have k55 := hid h54
          clear h54
          refine hK.out _ _ (ptS_of k55.out 2 5 rfl rfl (by decide)) (fun hHeld => ?_)
          clear hK K
          try simp only [Act.put, List.getElem_toArray, List.getElem_cons_zero, List.getElem_cons_succ, List.setIfInBounds_toArray, List.set_cons_zero, List.set_cons_succ]
          refine wpAnyX_ready (rs := [19]) (by kernel_rfl) (by simp) ?_
          refine AllReadyX.cons rfl (fun K hK => ?_) AllReadyX.nil
          go_simp
          refine hK.out _ _ (ptS_of k55.out 2 5 rfl rfl (by decide)) (fun hHeld => ?_)
          clear hK K
          try simp only [Act.put, List.getElem_toArray, List.getElem_cons_zero, List.getElem_cons_succ, List.setIfInBounds_toArray, List.set_cons_zero, List.set_cons_succ]
          refine wpAnyX_take (i := 20) (oi := _) (v := ?_) rfl (by kernel_rfl) (by kernel_rfl) (by kernel_rfl) (by kernel_rfl) (fun _ _ _ h => h) (Or.inl ⟨by rfl, ?_⟩) (by assumption) ?_
          rotate_left
          · intro w hSw; go_simp; with_reducible rfl
          simp only [Act.put, List.getElem_toArray, List.getElem_cons_zero, List.getElem_cons_succ, List.setIfInBounds_toArray, List.set_cons_zero, List.set_cons_succ]
          have q1 := (k55.out).cell 5 3 rfl rfl
          have z1 := (k55.out).frozen 5 3 rfl
          have k1 := hid ((k55.out).set 5 rfl 3 (.slice A51 (l.length + 1) c52))
          refine wpAnyX_ready (rs := [21]) (by kernel_rfl) (by simp) ?_
          refine AllReadyX.last rfl (fun K hK => ?_)
          go_simp
          refine hK.out _ _ ?_
          clear hK K
          try simp only [Act.put, List.getElem_toArray, List.getElem_cons_zero, List.getElem_cons_succ, List.setIfInBounds_toArray, List.set_cons_zero, List.set_cons_succ]
          refine wpAnyX_done (by kernel_rfl) ?_ _
          have k2 := Led.front (P := [_, _, _, _, _, _]) (R := R) k1.out [0, 3, 4, 5] (by decide) rfl
          have k3 := hid (Led.relist (p := (q + 1)) (s0 := ((s : Int), (⟨B, ids.length, e⟩ : Sl))) (r0 := ((s : Int), ids)) (R := tBlk gx 133 (srX A n c A' m d to (.slice A51 (l.length + 1) c52)) :: R) (show Led w0 _ (tOwns elRt w0.heap.size 35 (.slice A51 (l.length + 1) c52) (putAt ss (q + 1) ((s : Int), (⟨B, ids.length, e⟩ : Sl))) :: tOwns elInt b 3 (.slice B ids.length e) ids :: tRS w0.heap.size (.slice (some ⟨gv, go, none⟩) l.length cV) ss (l.map fun r => ((s : Int), r)) :: tBlk gx 133 (srX A n c A' m d to (.slice A51 (l.length + 1) c52)) :: R) from by rw [HPU.out]; exact k2) HPS.out rfl hbb (Nat.le_refl _))
          clear k1 k2 q1 z1
          go_wp2_with fail
          go_end0
          refine ⟨rfl, .slice A51 (l.length + 1) c52, putAt ss (q + 1) ((s : Int), (⟨B, ids.length, e⟩ : Sl)), ?_⟩
          have e1 : (insR fs (s : Int) l ids).map (fun r => ((s : Int), r)) = putAt (l.map fun r => ((s : Int), r)) (q + 1) ((s : Int), ids) := by unfold insR; rw [HPL.out, putAt_map]
          rw [e1]
          exact k3.out
end
end Go.Proofs.Ytfepilpllfiegaa
