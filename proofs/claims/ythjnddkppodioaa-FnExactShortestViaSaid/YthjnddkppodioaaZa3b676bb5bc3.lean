/- Lemmas and walks that the claim rests on, laid together. Conditions: none. -/
import Derived.Test.YthjnddkppodioaaZcfae11148e2e
import Derived.Test.YthjnddkppodioaaZda65de84844e
import Derived.Test.YthjnddkppodioaaZ1119d34bb048
import Derived.Test.YthjnddkppodioaaRows
import Derived.Test.YthjnddkppodioaaZad4c98039d2f
import Derived.Deep.RegionHeld
import Derived.Below
import Derived.BigQuiet
import Derived.Deep.RegionWith
/- The order of routes in plain Lean: it is an order. Conditions: one start. -/
namespace Go.Proofs.Ythjnddkppodioaa
theorem cmpL_le_trans : ∀ {a b c : List Int}, cmpL a b ≤ 0 → cmpL b c ≤ 0 → cmpL a c ≤ 0 ∧ (cmpL a c = 0 → cmpL a b = 0 ∧ cmpL b c = 0) := by
  intro a
  induction a with
  | nil =>
    intro b c h1 h2
    cases b with
    | nil => exact ⟨h2, fun h => ⟨rfl, h⟩⟩
    | cons y b =>
      cases c with
      | nil => exact absurd h2 (by unfold cmpL; decide)
      | cons z c => exact ⟨by unfold cmpL; decide, fun h => absurd h (by unfold cmpL; decide)⟩
  | cons x a ih =>
    intro b c h1 h2
    cases b with
    | nil => exact absurd h1 (by unfold cmpL; decide)
    | cons y b =>
      cases c with
      | nil => exact absurd h2 (by unfold cmpL; decide)
      | cons z c =>
        have e1 : cmpL (x :: a) (y :: b) = if x < y then -1 else if y < x then 1 else cmpL a b := rfl
        have e2 : cmpL (y :: b) (z :: c) = if y < z then -1 else if z < y then 1 else cmpL b c := rfl
        have e3 : cmpL (x :: a) (z :: c) = if x < z then -1 else if z < x then 1 else cmpL a c := rfl
        rw [e1] at h1
        rw [e2] at h2
        rw [e1, e2, e3]
        by_cases hxy : x < y
        · by_cases hyz : y < z
          · rw [if_pos (by omega : x < z)]; exact ⟨by omega, fun h => by omega⟩
          · rw [if_neg hyz] at h2
            by_cases hzy : z < y
            · rw [if_pos hzy] at h2; omega
            · rw [if_pos (by omega : x < z)]; exact ⟨by omega, fun h => by omega⟩
        · rw [if_neg hxy] at h1 ⊢
          by_cases hyx : y < x
          · rw [if_pos hyx] at h1; omega
          · rw [if_neg hyx] at h1 ⊢
            have hxe : x = y := by omega
            subst hxe
            by_cases hyz : x < z
            · rw [if_pos hyz, if_pos hyz]; exact ⟨by omega, fun h => by omega⟩
            · rw [if_neg hyz] at h2 ⊢
              rw [if_neg hyz]
              by_cases hzy : z < x
              · rw [if_pos hzy] at h2; omega
              · rw [if_neg hzy] at h2 ⊢
                rw [if_neg hzy]
                exact ih h1 h2
theorem cmpL_anti : ∀ {a b : List Int}, cmpL a b = 0 → a = b := by
  intro a
  induction a with
  | nil => intro b h; cases b with
    | nil => rfl
    | cons y b => exact absurd h (by unfold cmpL; decide)
  | cons x a ih =>
    intro b h
    cases b with
    | nil => exact absurd h (by unfold cmpL; decide)
    | cons y b =>
      have e1 : cmpL (x :: a) (y :: b) = if x < y then -1 else if y < x then 1 else cmpL a b := rfl
      rw [e1] at h
      split at h
      · omega
      · split at h
        · omega
        · rw [ih h, show x = y by omega]
theorem cmpL_flip : ∀ (a b : List Int), cmpL a b = -cmpL b a := by
  intro a
  induction a with
  | nil => intro b; cases b <;> rfl
  | cons x a ih =>
    intro b
    cases b with
    | nil => rfl
    | cons y b =>
      show (if x < y then -1 else if y < x then 1 else cmpL a b) = -(if y < x then -1 else if x < y then 1 else cmpL b a)
      rw [ih b]
      split <;> split <;> omega
/-- a is not behind b (one start). -/
def leR (fs : List Fib) (s : Int) (a b : List Int) : Prop := ordR fs s a s b ≤ 0
theorem ordR_eq (fs : List Fib) (s : Int) (a b : List Int) : ordR fs s a s b = if lenR fs a < lenR fs b then -1 else if lenR fs b < lenR fs a then 1 else if (a.length : Int) < b.length then -1 else if (b.length : Int) < a.length then 1 else cmpL a b := by
  by_cases h1 : lenR fs a < lenR fs b
  · simp [ordR, orI, cmpB, h1]
  · by_cases h2 : lenR fs b < lenR fs a
    · simp [ordR, orI, cmpB, h1, h2]
    · by_cases h3 : (a.length : Int) < b.length
      · have h3' : a.length < b.length := by omega
        simp [ordR, orI, cmpB, h1, h2, h3']
      · by_cases h4 : (b.length : Int) < a.length
        · have h4' : b.length < a.length := by omega
          have h3' : ¬ a.length < b.length := by omega
          simp [ordR, orI, cmpB, h1, h2, h3', h4']
        · simp only [ordR, orI, cmpB, if_neg h1, if_neg h2, if_neg h3, if_neg h4]
          by_cases h5 : cmpL a b = 0
          · simp [h5]
          · simp [h5]
theorem leR_trans {fs : List Fib} {s : Int} {a b c : List Int} (h1 : leR fs s a b) (h2 : leR fs s b c) : leR fs s a c := by
  unfold leR at *
  rw [ordR_eq] at *
  have h3 : cmpL a b ≤ 0 → cmpL b c ≤ 0 → cmpL a c ≤ 0 := fun x y => (cmpL_le_trans x y).1
  repeat' split at h1
  all_goals repeat' split at h2
  all_goals repeat' split
  all_goals first | omega | exact h3 h1 h2
theorem leR_anti {fs : List Fib} {s : Int} {a b : List Int} (h1 : leR fs s a b) (h2 : leR fs s b a) : a = b := by
  unfold leR at *
  rw [ordR_eq] at *
  have hf := cmpL_flip a b
  apply cmpL_anti
  repeat' split at h1
  all_goals repeat' split at h2
  all_goals omega
theorem leR_total {fs : List Fib} {s : Int} {a b : List Int} (h : ¬ leR fs s a b) : leR fs s b a := by
  unfold leR at *
  rw [ordR_eq] at *
  have hf := cmpL_flip a b
  repeat' split at h
  all_goals repeat' split
  all_goals omega
end Go.Proofs.Ythjnddkppodioaa
/- All simple routes in plain Lean: the search that stops when it has too many, against the whole search. Conditions: none. -/
namespace Go.Proofs.Ythjnddkppodioaa
section
variable {m to M : Nat} {nx : Nat → Nat → Option Nat} {ins : List (List Int) → List Int → List (List Int)}
/-- All routes that extend one, in the order of the search. -/
def dfsL (m to : Nat) (nx : Nat → Nat → Option Nat) : Nat → Nat → List Nat → List Int → List (List Int)
  | 0, _, _, _ => []
  | k + 1, v, seen, ids => if v = to then [ids] else (List.range m).flatMap fun i => match nx i v with
    | some u => if u ∈ seen then [] else dfsL m to nx k u (u :: seen) (ids ++ [(i : Int)])
    | none => []
/-- The search that puts each route at its place and stops when it has more than M. -/
def refL (m to M : Nat) (nx : Nat → Nat → Option Nat) (ins : List (List Int) → List Int → List (List Int)) : Nat → Nat → List Nat → List Int → List (List Int) → List (List Int)
  | 0, _, _, _, l => l
  | k + 1, v, seen, ids, l => if v = to then ins l ids else (List.range m).foldl (fun l i => if l.length ≤ M then (match nx i v with
    | some u => if u ∈ seen then l else refL m to M nx ins k u (u :: seen) (ids ++ [(i : Int)]) l
    | none => l) else l) l
theorem ins_foldl (hi : ∀ l r, (ins l r).length = l.length + 1) : ∀ (D l : List (List Int)), (D.foldl ins l).length = l.length + D.length := by
  intro D
  induction D with
  | nil => intro l; rfl
  | cons r D ih => intro l; rw [List.foldl_cons, ih, hi, List.length_cons]; omega
theorem refL_eq (hi : ∀ l r, (ins l r).length = l.length + 1) : ∀ (k v : Nat) (seen : List Nat) (ids : List Int) (l : List (List Int)), l.length ≤ M →
    refL m to M nx ins k v seen ids l = ((dfsL m to nx k v seen ids).take (M + 1 - l.length)).foldl ins l := by
  intro k
  induction k with
  | zero => intro v seen ids l _; unfold refL dfsL; rw [List.take_nil]; rfl
  | succ k ih =>
    intro v seen ids l hl
    unfold refL dfsL
    by_cases hv : v = to
    · rw [if_pos hv, if_pos hv, show M + 1 - l.length = (M - l.length) + 1 by omega, List.take_succ_cons, List.take_nil]
      rfl
    · rw [if_neg hv, if_neg hv]
      suffices hh : ∀ (is : List Nat) (l : List (List Int)), l.length ≤ M + 1 → is.foldl (fun l i => if l.length ≤ M then (match nx i v with
          | some u => if u ∈ seen then l else refL m to M nx ins k u (u :: seen) (ids ++ [(i : Int)]) l
          | none => l) else l) l = ((is.flatMap fun i => match nx i v with
          | some u => if u ∈ seen then [] else dfsL m to nx k u (u :: seen) (ids ++ [(i : Int)])
          | none => []).take (M + 1 - l.length)).foldl ins l from hh (List.range m) l (by omega)
      intro is
      induction is with
      | nil => intro l _; rw [List.flatMap_nil, List.take_nil]; rfl
      | cons i is ihs =>
        intro l hl1
        rw [List.foldl_cons, List.flatMap_cons]
        by_cases hM : l.length ≤ M
        · rw [if_pos hM]
          cases hn : nx i v with
          | none => simp only [List.nil_append]; exact ihs l hl1
          | some u =>
            simp only []
            by_cases hs : u ∈ seen
            · rw [if_pos hs, if_pos hs, List.nil_append]; exact ihs l hl1
            · rw [if_neg hs, if_neg hs, ih u (u :: seen) (ids ++ [(i : Int)]) l hM]
              generalize dfsL m to nx k u (u :: seen) (ids ++ [(i : Int)]) = D
              have hlen := ins_foldl hi (D.take (M + 1 - l.length)) l
              rw [List.length_take] at hlen
              rw [ihs _ (by rw [hlen]; omega), hlen, List.take_append, List.foldl_append]
              congr 2
              omega
        · rw [if_neg hM, ihs l hl1, show M + 1 - l.length = 0 by omega, List.take_zero, List.take_zero]
/-- The whole of it: either all routes, put in one after another, or too many. -/
theorem refL_all (hi : ∀ l r, (ins l r).length = l.length + 1) (k v : Nat) (seen : List Nat) (ids : List Int) :
    (refL m to M nx ins k v seen ids [] = (dfsL m to nx k v seen ids).foldl ins [] ∧ (dfsL m to nx k v seen ids).length ≤ M) ∨
    (M < (refL m to M nx ins k v seen ids []).length ∧ M < (dfsL m to nx k v seen ids).length) := by
  have h := refL_eq (m := m) (to := to) (M := M) (nx := nx) hi k v seen ids [] (Nat.zero_le _)
  rw [List.length_nil, Nat.sub_zero] at h
  by_cases hM : (dfsL m to nx k v seen ids).length ≤ M
  · exact .inl ⟨by rw [h, List.take_of_length_le (by omega)], hM⟩
  · refine .inr ⟨?_, by omega⟩
    rw [h, ins_foldl hi, List.length_take]
    simp; omega
end
end Go.Proofs.Ythjnddkppodioaa
/- Components by labels that are joined along fibers: as many rounds as there are nodes suffice. Plain Lean. Conditions: the fibers' ends are nodes. -/
namespace Go.Proofs.Ythjnddkppodioaa
def valL (L : List Int) (v : Nat) : Int := L.getD v 0
def fibD (fs : List Fib) (i : Nat) : Fib := fs.getD i ⟨0, 0, 0, 0⟩
/-- A fiber joins the labels of its ends. -/
def joinF (f : Fib) (L : List Int) : List Int := (L.set f.a.toNat (min (valL L f.a.toNat) (valL L f.b.toNat))).set f.b.toNat (min (valL L f.a.toNat) (valL L f.b.toNat))
/-- .. each of the first i fibers that is not gone. -/
def passTo (q : Nat → Bool) (fs : List Fib) (L : List Int) : Nat → List Int
  | 0 => L
  | i + 1 => if q i then passTo q fs L i else joinF (fibD fs i) (passTo q fs L i)
def passL (q : Nat → Bool) (fs : List Fib) (L : List Int) : List Int := passTo q fs L fs.length
/-- k rounds. -/
def rndL (q : Nat → Bool) (fs : List Fib) (n : Nat) : Nat → List Int
  | 0 => marks 0 n
  | k + 1 => passL q fs (rndL q fs n k)
/-- The labels: the smallest node of each component. -/
def compL (q : Nat → Bool) (fs : List Fib) (n : Nat) : List Int := rndL q fs n n
/-- The fibers' ends are nodes. -/
def endsB (n : Nat) (fs : List Fib) : Prop := ∀ i, i < fs.length → 0 ≤ (fibD fs i).a ∧ (fibD fs i).a < (fibD fs i).b ∧ (fibD fs i).b < n
theorem valL_set {L : List Int} {a v : Nat} {x : Int} (ha : a < L.length) : valL (L.set a x) v = if v = a then x else valL L v := by
  unfold valL
  by_cases h : v = a
  · subst h; rw [if_pos rfl]; simp [ha]
  · rw [if_neg h]; simp [show ¬ a = v from fun e => h e.symm]
theorem valL_get {L : List Int} {v : Nat} (h : v < L.length) : L[v]? = some (valL L v) := by unfold valL; simp [h]
theorem passTo_succ (q : Nat → Bool) (fs : List Fib) (L : List Int) (i : Nat) : passTo q fs L (i + 1) = if q i then passTo q fs L i else joinF (fibD fs i) (passTo q fs L i) := rfl
theorem passTo_no {q : Nat → Bool} {fs : List Fib} {L : List Int} {i : Nat} (h : q i = false) : passTo q fs L (i + 1) = joinF (fibD fs i) (passTo q fs L i) := by rw [passTo_succ, h]; rfl
theorem rndL_succ (q : Nat → Bool) (fs : List Fib) (n k : Nat) : rndL q fs n (k + 1) = passL q fs (rndL q fs n k) := rfl
theorem joinF_len (f : Fib) (L : List Int) : (joinF f L).length = L.length := by simp [joinF]
theorem joinF_val {f : Fib} {L : List Int} {n : Nat} (hL : L.length = n) (h0 : 0 ≤ f.a) (h1 : f.a < f.b) (h2 : f.b < n) (v : Nat) :
    valL (joinF f L) v = if v = f.a.toNat ∨ v = f.b.toNat then min (valL L f.a.toNat) (valL L f.b.toNat) else valL L v := by
  unfold joinF
  rw [valL_set (by simp; omega), valL_set (by omega)]
  by_cases e1 : v = f.b.toNat
  · rw [if_pos e1, if_pos (.inr e1)]
  · rw [if_neg e1]
    by_cases e2 : v = f.a.toNat
    · rw [if_pos e2, if_pos (.inl e2)]
    · rw [if_neg e2, if_neg (by rintro (h | h); exact e2 h; exact e1 h)]
theorem joinF_same {f : Fib} {L : List Int} {n : Nat} (hL : L.length = n) (h0 : 0 ≤ f.a) (h1 : f.a < f.b) (h2 : f.b < n) (he : valL L f.a.toNat = valL L f.b.toNat) : joinF f L = L := by
  unfold joinF
  rw [he, show min (valL L f.b.toNat) (valL L f.b.toNat) = valL L f.b.toNat by omega]
  have ha : L[f.a.toNat]? = some (valL L f.b.toNat) := by rw [← he]; exact valL_get (by omega)
  have hb : L[f.b.toNat]? = some (valL L f.b.toNat) := valL_get (by omega)
  have e1 : L.set f.a.toNat (valL L f.b.toNat) = L := by
    apply List.ext_getElem?
    intro i
    rw [List.getElem?_set]
    by_cases h : f.a.toNat = i
    · rw [if_pos h, if_pos (by omega), ← h, ha]
    · rw [if_neg h]
  rw [e1]
  apply List.ext_getElem?
  intro i
  rw [List.getElem?_set]
  by_cases h : f.b.toNat = i
  · rw [if_pos h, if_pos (by omega), ← h, hb]
  · rw [if_neg h]
section
variable {q : Nat → Bool} {fs : List Fib} {n : Nat}
theorem passTo_len (L : List Int) (i : Nat) : (passTo q fs L i).length = L.length := by
  induction i with
  | zero => rfl
  | succ i ih => rw [passTo_succ]; split; exact ih; rw [joinF_len]; exact ih
theorem rndL_len (k : Nat) : (rndL q fs n k).length = n := by
  induction k with
  | zero => exact marks_len 0 n
  | succ k ih => rw [rndL_succ]; unfold passL; rw [passTo_len]; exact ih
theorem compL_len : (compL q fs n).length = n := rndL_len n
theorem passTo_step {L : List Int} (hL : L.length = n) (he : endsB n fs) {i : Nat} (hi : i < fs.length) (v : Nat) : valL (passTo q fs L (i + 1)) v ≤ valL (passTo q fs L i) v := by
  rw [passTo_succ]
  split
  · exact Int.le_refl _
  · obtain ⟨h0, h1, h2⟩ := he i hi
    rw [joinF_val (n := n) (by rw [passTo_len, hL]) h0 h1 h2]
    split
    · rename_i h; rcases h with h | h <;> subst h <;> omega
    · exact Int.le_refl _
theorem passTo_mono {L : List Int} (hL : L.length = n) (he : endsB n fs) {i j : Nat} (hij : i ≤ j) (hj : j ≤ fs.length) (v : Nat) : valL (passTo q fs L j) v ≤ valL (passTo q fs L i) v := by
  induction j with
  | zero => rw [show i = 0 by omega]; exact Int.le_refl _
  | succ j ih =>
    rcases Nat.lt_or_ge i (j + 1) with h | h
    · exact Int.le_trans (passTo_step hL he (by omega) v) (ih (by omega) (by omega))
    · rw [show i = j + 1 by omega]; exact Int.le_refl _
theorem passL_le {L : List Int} (hL : L.length = n) (he : endsB n fs) (v : Nat) : valL (passL q fs L) v ≤ valL L v := passTo_mono hL he (Nat.zero_le _) (Nat.le_refl _) v
theorem passL_edge {L : List Int} (hL : L.length = n) (he : endsB n fs) {i : Nat} (hi : i < fs.length) (hq : q i = false) :
    valL (passL q fs L) (fibD fs i).a.toNat ≤ valL L (fibD fs i).b.toNat ∧ valL (passL q fs L) (fibD fs i).b.toNat ≤ valL L (fibD fs i).a.toNat := by
  obtain ⟨h0, h1, h2⟩ := he i hi
  have k1 := fun v => passTo_mono (q := q) hL he (show i + 1 ≤ fs.length from hi) (Nat.le_refl _) v
  have k2 := fun v => passTo_mono (q := q) hL he (Nat.zero_le i) (Nat.le_of_lt hi) v
  have e : ∀ v, valL (passTo q fs L (i + 1)) v = if v = (fibD fs i).a.toNat ∨ v = (fibD fs i).b.toNat then min (valL (passTo q fs L i) (fibD fs i).a.toNat) (valL (passTo q fs L i) (fibD fs i).b.toNat) else valL (passTo q fs L i) v := fun v => by
    rw [passTo_no hq]; exact joinF_val (n := n) (by rw [passTo_len, hL]) h0 h1 h2 v
  have ka := k1 (fibD fs i).a.toNat
  have kb := k1 (fibD fs i).b.toNat
  rw [e, if_pos (.inl rfl)] at ka
  rw [e, if_pos (.inr rfl)] at kb
  have la := k2 (fibD fs i).a.toNat
  have lb := k2 (fibD fs i).b.toNat
  unfold passL
  have e0 : passTo q fs L 0 = L := rfl
  rw [e0] at la lb
  omega
/-- No fiber leads out of the nodes whose label is c at most. -/
def shutL (q : Nat → Bool) (fs : List Fib) (L : List Int) (c : Int) : Prop := ∀ i, i < fs.length → q i = false → (valL L (fibD fs i).a.toNat ≤ c ↔ valL L (fibD fs i).b.toNat ≤ c)
theorem passL_shut {L : List Int} (hL : L.length = n) (he : endsB n fs) {c : Int} (hc : shutL q fs L c) (v : Nat) : valL (passL q fs L) v ≤ c ↔ valL L v ≤ c := by
  suffices h : ∀ i, i ≤ fs.length → ∀ v, (valL (passTo q fs L i) v ≤ c ↔ valL L v ≤ c) from h _ (Nat.le_refl _) v
  intro i
  induction i with
  | zero => intro _ v; exact Iff.rfl
  | succ i ih =>
    intro hi v
    have ih := ih (by omega)
    rw [passTo_succ]
    cases hq : q i
    · obtain ⟨h0, h1, h2⟩ := he i (by omega)
      have hs := hc i (by omega) hq
      simp only [Bool.false_eq_true, if_false]
      rw [joinF_val (n := n) (by rw [passTo_len, hL]) h0 h1 h2]
      have ia := ih (fibD fs i).a.toNat
      have ib := ih (fibD fs i).b.toNat
      split
      · rename_i h
        rcases h with h | h <;> subst h <;> omega
      · exact ih v
    · simp only [if_true]; exact ih v
/-- How many nodes have a label of c at most. -/
def cntL (n : Nat) (L : List Int) (c : Int) : Nat := (List.range n).countP fun v => decide (valL L v ≤ c)
theorem countP_lt {α : Type} {p r : α → Bool} : ∀ {l : List α}, (∀ x ∈ l, p x = true → r x = true) → (∃ x ∈ l, p x = false ∧ r x = true) → l.countP p < l.countP r := by
  intro l
  induction l with
  | nil => rintro _ ⟨x, hx, _⟩; cases hx
  | cons y l ih =>
    intro h1 h2
    have hle : l.countP p ≤ l.countP r := List.countP_mono_left (fun x hx h => h1 x (by simp [hx]) h)
    rw [List.countP_cons, List.countP_cons]
    obtain ⟨x, hx, hp, hr⟩ := h2
    rcases List.mem_cons.1 hx with rfl | hx
    · rw [hp, hr]; simp; omega
    · have := ih (fun z hz => h1 z (by simp [hz])) ⟨x, hx, hp, hr⟩
      have hy := h1 y (by simp)
      cases h3 : p y
      · simp; omega
      · rw [hy h3]; simp; omega
theorem shut_or (he : endsB n fs) (c : Int) (k : Nat) : shutL q fs (rndL q fs n k) c ∨ k + 1 ≤ cntL n (rndL q fs n k) c := by
  induction k with
  | zero =>
    by_cases h : 1 ≤ cntL n (rndL q fs n 0) c
    · exact .inr h
    · left
      have h0 : cntL n (rndL q fs n 0) c = 0 := by omega
      have hn : ∀ v, v < n → ¬ (valL (rndL q fs n 0) v ≤ c) := by
        intro v hv
        have := List.countP_eq_zero.1 h0 v (by simpa using hv)
        simpa using this
      intro i hi _
      obtain ⟨h0, h1, h2⟩ := he i hi
      exact ⟨fun h => absurd h (hn _ (by omega)), fun h => absurd h (hn _ (by omega))⟩
  | succ k ih =>
    have hL : (rndL q fs n k).length = n := rndL_len k
    rcases Classical.em (shutL q fs (rndL q fs n k) c) with hs | hs
    · left
      intro i hi hq
      show valL (passL q fs (rndL q fs n k)) _ ≤ c ↔ valL (passL q fs (rndL q fs n k)) _ ≤ c
      rw [passL_shut hL he hs, passL_shut hL he hs]
      exact hs i hi hq
    · right
      have hk : k + 1 ≤ cntL n (rndL q fs n k) c := by
        rcases ih with h | h
        · exact absurd h hs
        · exact h
      unfold shutL at hs
      have ⟨i, hi, hq, hne⟩ : ∃ i, i < fs.length ∧ q i = false ∧ ¬ (valL (rndL q fs n k) (fibD fs i).a.toNat ≤ c ↔ valL (rndL q fs n k) (fibD fs i).b.toNat ≤ c) := by
        apply Classical.byContradiction
        intro hno
        exact hs fun i hi hq => Classical.byContradiction fun h => hno ⟨i, hi, hq, h⟩
      obtain ⟨h0, h1, h2⟩ := he i hi
      obtain ⟨ea, eb⟩ := passL_edge (q := q) hL he hi hq
      have hlt : cntL n (rndL q fs n k) c < cntL n (rndL q fs n (k + 1)) c := by
        refine countP_lt (fun v _ hv => ?_) ?_
        · have := passL_le (q := q) hL he v
          simp only [decide_eq_true_eq] at hv ⊢
          exact Int.le_trans this hv
        · by_cases hA : valL (rndL q fs n k) (fibD fs i).a.toNat ≤ c
          · have hB : ¬ valL (rndL q fs n k) (fibD fs i).b.toNat ≤ c := fun h => hne ⟨fun _ => h, fun _ => hA⟩
            refine ⟨(fibD fs i).b.toNat, by simp; omega, by simpa using hB, ?_⟩
            simp only [decide_eq_true_eq]
            exact Int.le_trans eb hA
          · have hB : valL (rndL q fs n k) (fibD fs i).b.toNat ≤ c := by
              apply Classical.byContradiction
              intro h
              exact hne ⟨fun x => absurd x hA, fun x => absurd x h⟩
            refine ⟨(fibD fs i).a.toNat, by simp; omega, by simpa using hA, ?_⟩
            simp only [decide_eq_true_eq]
            exact Int.le_trans ea hB
      omega
theorem shut_all (he : endsB n fs) (c : Int) : shutL q fs (compL q fs n) c := by
  rcases shut_or (q := q) he c n with h | h
  · exact h
  · have : cntL n (rndL q fs n n) c ≤ n := by unfold cntL; exact Nat.le_trans List.countP_le_length (by simp)
    omega
theorem valL_ext {L M : List Int} (hl : L.length = M.length) (h : ∀ v, valL L v = valL M v) : L = M := by
  apply List.ext_getElem?
  intro i
  rcases Nat.lt_or_ge i L.length with hi | hi
  · have := h i
    unfold valL at this
    rw [List.getD_eq_getElem?_getD, List.getD_eq_getElem?_getD, List.getElem?_eq_getElem hi, List.getElem?_eq_getElem (by omega : i < M.length)] at this
    rw [List.getElem?_eq_getElem hi, List.getElem?_eq_getElem (by omega : i < M.length)]
    simpa using this
  · rw [List.getElem?_eq_none hi, List.getElem?_eq_none (by omega)]
/-- A further round turns nothing. -/
theorem compL_fix (he : endsB n fs) : passL q fs (compL q fs n) = compL q fs n := by
  have hL : (compL q fs n).length = n := compL_len
  refine valL_ext (by unfold passL; rw [passTo_len]) (fun v => ?_)
  have h1 := (passL_shut hL he (shut_all (q := q) he (valL (passL q fs (compL q fs n)) v)) v).1 (Int.le_refl _)
  have h2 := passL_le (q := q) hL he v
  omega
/-- The ends of a fiber that is not gone have one label. -/
theorem compL_edge (he : endsB n fs) {i : Nat} (hi : i < fs.length) (hq : q i = false) : valL (compL q fs n) (fibD fs i).a.toNat = valL (compL q fs n) (fibD fs i).b.toNat := by
  have h1 := (shut_all (q := q) he (valL (compL q fs n) (fibD fs i).a.toNat) i hi hq).1 (Int.le_refl _)
  have h2 := (shut_all (q := q) he (valL (compL q fs n) (fibD fs i).b.toNat) i hi hq).2 (Int.le_refl _)
  omega
theorem rndL_stay {k : Nat} (h : rndL q fs n (k + 1) = rndL q fs n k) : ∀ j, k ≤ j → rndL q fs n j = rndL q fs n k := by
  intro j
  induction j with
  | zero => intro hk; rw [show k = 0 by omega]
  | succ j ih =>
    intro hk
    rcases Nat.lt_or_ge j k with h1 | h1
    · rw [show k = j + 1 by omega]
    · have := ih h1
      show passL q fs (rndL q fs n j) = _
      rw [this]; exact h
/-- Where a round turns nothing the labels are found. -/
theorem rndL_done (he : endsB n fs) {k : Nat} (h : rndL q fs n (k + 1) = rndL q fs n k) : rndL q fs n k = compL q fs n := by
  rcases Nat.le_total k n with h1 | h1
  · exact (rndL_stay h n h1).symm
  · exact rndL_stay (compL_fix he) k h1
theorem rndL_late (he : endsB n fs) {k : Nat} (h : n ≤ k) : rndL q fs n (k + 1) = rndL q fs n k := by
  rw [rndL_stay (compL_fix (q := q) he) k h, rndL_stay (compL_fix (q := q) he) (k + 1) (by omega)]
/-- Has one of the first i fibers turned a label? -/
def chgB (q : Nat → Bool) (fs : List Fib) (L : List Int) : Nat → Bool
  | 0 => false
  | i + 1 => chgB q fs L i || (!q i && !(valL (passTo q fs L i) (fibD fs i).a.toNat == valL (passTo q fs L i) (fibD fs i).b.toNat))
theorem chgB_no {L : List Int} (hL : L.length = n) (he : endsB n fs) {i : Nat} (hi : i ≤ fs.length) (h : chgB q fs L i = false) : passTo q fs L i = L := by
  induction i with
  | zero => rfl
  | succ i ih =>
    unfold chgB at h
    rw [Bool.or_eq_false_iff] at h
    have ih := ih (by omega) h.1
    rw [passTo_succ]
    cases hq : q i
    · simp only [Bool.false_eq_true, if_false]
      obtain ⟨h0, h1, h2⟩ := he i (by omega)
      rw [joinF_same (n := n) (by rw [passTo_len, hL]) h0 h1 h2 (by have := h.2; rw [hq] at this; simpa using this)]
      exact ih
    · simp only [if_true]; exact ih
theorem chgB_yes {L : List Int} (hL : L.length = n) (he : endsB n fs) {i : Nat} (hi : i ≤ fs.length) (h : chgB q fs L i = true) : passL q fs L ≠ L := by
  have ⟨j, hj, hq, hne⟩ : ∃ j, j < fs.length ∧ q j = false ∧ valL (passTo q fs L j) (fibD fs j).a.toNat ≠ valL (passTo q fs L j) (fibD fs j).b.toNat := by
    induction i with
    | zero => cases h
    | succ i ih =>
      unfold chgB at h
      rcases Bool.or_eq_true_iff.1 h with h | h
      · exact ih (by omega) h
      · exact ⟨i, by omega, by simpa using (Bool.and_eq_true_iff.1 h).1, by simpa using (Bool.and_eq_true_iff.1 h).2⟩
  obtain ⟨h0, h1, h2⟩ := he j hj
  have e : ∀ v, valL (passTo q fs L (j + 1)) v = if v = (fibD fs j).a.toNat ∨ v = (fibD fs j).b.toNat then min (valL (passTo q fs L j) (fibD fs j).a.toNat) (valL (passTo q fs L j) (fibD fs j).b.toNat) else valL (passTo q fs L j) v := fun v => by
    rw [passTo_no hq]; exact joinF_val (n := n) (by rw [passTo_len, hL]) h0 h1 h2 v
  intro hEq
  have k1 := fun v => passTo_mono (q := q) hL he (show j + 1 ≤ fs.length from hj) (Nat.le_refl _) v
  have k2 := fun v => passTo_mono (q := q) hL he (Nat.zero_le j) (Nat.le_of_lt hj) v
  have e0 : passTo q fs L 0 = L := rfl
  have em : passTo q fs L fs.length = L := hEq
  have a1 := k1 (fibD fs j).a.toNat
  have b1 := k1 (fibD fs j).b.toNat
  have a2 := k2 (fibD fs j).a.toNat
  have b2 := k2 (fibD fs j).b.toNat
  rw [e, if_pos (.inl rfl), em] at a1
  rw [e, if_pos (.inr rfl), em] at b1
  rw [e0] at a2 b2
  omega
end
end Go.Proofs.Ythjnddkppodioaa
/- The search for routes over fibers, in plain Lean: its bounds; what it finds. Conditions: as each states. -/
namespace Go.Proofs.Ythjnddkppodioaa
open Go.RowKit
/-- The node at the other end, if there is one. -/
def nxF (fs : List Fib) (i v : Nat) : Option Nat := if 0 ≤ otherF (fibD fs i) (v : Int) then some (otherF (fibD fs i) (v : Int)).toNat else none
/-- All routes on from v. -/
def rtsL (fs : List Fib) (to k v : Nat) (seen : List Nat) (ids : List Int) : List (List Int) := dfsL fs.length to (nxF fs) k v seen ids
theorem nxF_some {fs : List Fib} {i v u : Nat} (h : otherF (fibD fs i) (v : Int) = (u : Int)) : nxF fs i v = some u := by
  unfold nxF; rw [h, if_pos (by omega)]; rfl
theorem nxF_none {fs : List Fib} {i v : Nat} (h : otherF (fibD fs i) (v : Int) < 0) : nxF fs i v = none := by
  unfold nxF; rw [if_neg (by omega)]
/-- What fiber i adds. -/
def rtsI (fs : List Fib) (to k v : Nat) (seen : List Nat) (ids : List Int) (i : Nat) : List (List Int) := match nxF fs i v with
  | some u => if u ∈ seen then [] else rtsL fs to k u (u :: seen) (ids ++ [(i : Int)])
  | none => []
/-- What the first j fibers add. -/
def rtsJ (fs : List Fib) (to k v : Nat) (seen : List Nat) (ids : List Int) (j : Nat) : List (List Int) := (List.range j).flatMap (rtsI fs to k v seen ids)
section
variable {fs : List Fib} {to k v : Nat} {seen : List Nat} {ids : List Int}
theorem rtsL_end : rtsL fs to (k + 1) to seen ids = [ids] := by unfold rtsL dfsL; rw [if_pos rfl]
theorem rtsL_on (h : v ≠ to) : rtsL fs to (k + 1) v seen ids = rtsJ fs to k v seen ids fs.length := by
  unfold rtsL rtsJ
  rw [dfsL, if_neg h]
  rfl
theorem rtsJ_succ (j : Nat) : rtsJ fs to k v seen ids (j + 1) = rtsJ fs to k v seen ids j ++ rtsI fs to k v seen ids j := by
  unfold rtsJ
  rw [List.range_succ, List.flatMap_append]
  simp
theorem rtsI_none {i : Nat} (h : otherF (fibD fs i) (v : Int) < 0) : rtsI fs to k v seen ids i = [] := by unfold rtsI; rw [nxF_none h]
theorem rtsI_seen {i u : Nat} (h : otherF (fibD fs i) (v : Int) = (u : Int)) (hs : u ∈ seen) : rtsI fs to k v seen ids i = [] := by unfold rtsI; rw [nxF_some h]; simp [hs]
theorem rtsI_on {i u : Nat} (h : otherF (fibD fs i) (v : Int) = (u : Int)) (hs : ¬ u ∈ seen) : rtsI fs to k v seen ids i = rtsL fs to k u (u :: seen) (ids ++ [(i : Int)]) := by unfold rtsI; rw [nxF_some h]; simp [hs]
theorem rtsJ_mono {i j : Nat} (h : i ≤ j) : (rtsJ fs to k v seen ids i).length ≤ (rtsJ fs to k v seen ids j).length := by
  obtain ⟨d, rfl⟩ := Nat.exists_eq_add_of_le h
  clear h
  induction d with
  | zero => exact Nat.le_refl _
  | succ d ih => rw [Nat.add_succ, rtsJ_succ, List.length_append]; omega
/-- Only the set of the nodes seen counts. -/
theorem rtsL_congr : ∀ (k v : Nat) (s t : List Nat) (ids : List Int), (∀ u, u ∈ s ↔ u ∈ t) → rtsL fs to k v s ids = rtsL fs to k v t ids := by
  intro k
  induction k with
  | zero => intro v s t ids _; rfl
  | succ k ih =>
    intro v s t ids h
    by_cases hv : v = to
    · subst hv; rw [rtsL_end, rtsL_end]
    · rw [rtsL_on hv, rtsL_on hv]
      unfold rtsJ
      congr 1
      funext i
      unfold rtsI
      cases nxF fs i v with
      | none => rfl
      | some u =>
        simp only [h u]
        split
        · rfl
        · exact ih u _ _ _ (fun x => by rw [List.mem_cons, List.mem_cons, h x])
/-- How many there are. -/
theorem rtsL_len : ∀ (k v : Nat) (seen : List Nat) (ids : List Int), (rtsL fs to k v seen ids).length ≤ (fs.length + 1) ^ k := by
  intro k
  induction k with
  | zero => intro v seen ids; exact Nat.zero_le _
  | succ k ih =>
    intro v seen ids
    by_cases hv : v = to
    · subst hv; rw [rtsL_end]; exact Nat.one_le_pow _ _ (by omega)
    · rw [rtsL_on hv]
      have hj : ∀ j, (rtsJ fs to k v seen ids j).length ≤ j * (fs.length + 1) ^ k := by
        intro j
        induction j with
        | zero => exact Nat.zero_le _
        | succ j ihj =>
          rw [rtsJ_succ, List.length_append, Nat.add_mul, Nat.one_mul]
          have : (rtsI fs to k v seen ids j).length ≤ (fs.length + 1) ^ k := by
            unfold rtsI
            split
            · split
              · exact Nat.zero_le _
              · exact ih _ _ _
            · exact Nat.zero_le _
          omega
      have h1 := hj fs.length
      have h2 : fs.length * (fs.length + 1) ^ k ≤ (fs.length + 1) ^ (k + 1) := by
        rw [Nat.pow_succ, Nat.mul_comm]
        exact Nat.mul_le_mul_left _ (by omega)
      omega
/-- What is found extends what was given, by fibers of the network, few. -/
theorem rtsL_mem : ∀ (k v : Nat) (seen : List Nat) (ids : List Int), ∀ r ∈ rtsL fs to k v seen ids, (∃ e, r = ids ++ e ∧ e.length + 1 ≤ k ∧ ∀ x ∈ e, 0 ≤ x ∧ x < fs.length) := by
  intro k
  induction k with
  | zero => intro v seen ids r hr; cases hr
  | succ k ih =>
    intro v seen ids r hr
    by_cases hv : v = to
    · subst hv
      rw [rtsL_end] at hr
      rw [List.mem_singleton.1 hr]
      exact ⟨[], by simp, by simp, fun x hx => by cases hx⟩
    · rw [rtsL_on hv] at hr
      unfold rtsJ at hr
      obtain ⟨i, hi, hr⟩ := List.mem_flatMap.1 hr
      have hi2 : i < fs.length := by simpa using hi
      unfold rtsI at hr
      split at hr
      · split at hr
        · cases hr
        · obtain ⟨e, he, h1, h2⟩ := ih _ _ _ r hr
          refine ⟨(i : Int) :: e, by rw [he]; simp, by simp; omega, fun x hx => ?_⟩
          rcases List.mem_cons.1 hx with hx | hx
          · rw [hx]; omega
          · exact h2 x hx
      · cases hr
theorem nodup_len : ∀ (n : Nat) (l : List Nat), l.Nodup → (∀ u ∈ l, u < n) → l.length ≤ n := by
  intro n
  induction n with
  | zero =>
    intro l _ h
    cases l with
    | nil => exact Nat.le_refl _
    | cons x l => exact absurd (h x (by simp)) (by omega)
  | succ n ih =>
    intro l hl h
    by_cases hm : n ∈ l
    · have h1 := ih (l.erase n) (hl.erase n) (fun u hu => by
        have h2 := (hl.mem_erase_iff).1 hu
        have := h u h2.2
        have := h2.1
        omega)
      rw [List.length_erase_of_mem hm] at h1
      omega
    · have h1 := ih l hl (fun u hu => by
        have := h u hu
        have : u ≠ n := fun e => hm (e ▸ hu)
        omega)
      omega
/-- The depth is enough. -/
theorem fuel_pos {n k : Nat} {seen : List Nat} (hn : seen.Nodup) (hs : ∀ u ∈ seen, u < n) (h : seen.length + k = n + 1) : 0 < k := by
  have := nodup_len n seen hn hs
  omega
end
end Go.Proofs.Ythjnddkppodioaa
/- Rows of routes: owned, seen, equal. Conditions: as each states. -/
namespace Go.Proofs.Ythjnddkppodioaa
open Go.RowKit
/-- A route in memory: its start; where its fibers lie. -/
def elRt : El (Int × Sl) := ⟨2, fun x => [.int .i64 x.1, slV x.2], fun _ => rfl, by decide, fun _ u h => by
  simp at h
  rcases h with rfl | rfl
  · rfl
  · rfl⟩
/-- The row v of routes is the call's own, and so is each route's row; they hold rows; no two share memory. -/
def OwnsRS (w : World) (base : Nat) (v : Value) (ss : List (Int × Sl)) (rows : List (Int × List Int)) : Prop :=
  Owns elRt w base 45 v ss ∧ ss.length = rows.length ∧ (∀ (i : Nat) s r, ss[i]? = some s → rows[i]? = some r → s.1 = r.1 ∧ Owns elInt w base 3 (slV s.2) r.2) ∧
    ∀ (i j : Nat) s t g, i < j → ss[i]? = some s → ss[j]? = some t → (slV s.2).ownBlock = some g → ¬ ((slV t.2).ownBlock = some g)
/-- Rows of routes as they read. -/
def SeesRS (w : World) (A : Option Addr) (n : Nat) (ss : List (Int × Sl)) (rows : List (Int × List Int)) : Prop :=
  Sees elRt w w.heap.size A n ss ∧ ss.length = rows.length ∧ ∀ (i : Nat) s r, ss[i]? = some s → rows[i]? = some r → s.1 = r.1 ∧ s.2.n = r.2.length ∧ Sees elInt w w.heap.size s.2.A s.2.n r.2
section
variable {w w' : World} {base : Nat} {v : Value} {ss : List (Int × Sl)} {rows : List (Int × List Int)}
theorem OwnsRS.below (h : OwnsRS w base v ss rows) (hb : Below w.heap.size w w') : OwnsRS w' base v ss rows :=
  ⟨h.1.below hb, h.2.1, fun i s r h1 h2 => ⟨(h.2.2.1 i s r h1 h2).1, (h.2.2.1 i s r h1 h2).2.below hb⟩, h.2.2.2⟩
theorem OwnsRS.base_ {base' : Nat} (h : OwnsRS w base v ss rows) (hb : base' ≤ base) : OwnsRS w base' v ss rows :=
  ⟨h.1.base hb, h.2.1, fun i s r h1 h2 => ⟨(h.2.2.1 i s r h1 h2).1, (h.2.2.1 i s r h1 h2).2.base hb⟩, h.2.2.2⟩
theorem OwnsRS.nil (w : World) (base : Nat) : OwnsRS w base (.slice none 0 0) [] [] :=
  ⟨World.ownsRow_nil _ _ _ _, rfl, fun i s r h1 => by simp at h1, fun i j s t g _ h1 => by simp at h1⟩
theorem OwnsRS.lies (h : OwnsRS w base v ss rows) {b : Nat} (hb : v.ownBlock = some b ∨ ∃ (i : Nat) (s : Int × Sl), ss[i]? = some s ∧ (slV s.2).ownBlock = some b) : base ≤ b ∧ b < w.heap.size := by
  rcases hb with e | ⟨i, s, h1, e⟩
  · exact h.1.lies b e
  · obtain ⟨r, hr⟩ : ∃ r, rows[i]? = some r := ⟨rows[i]'(by rw [← h.2.1]; exact (List.getElem?_eq_some_iff.1 h1).1), List.getElem?_eq_getElem _⟩
    exact (h.2.2.1 i s r h1 hr).2.lies b e
theorem OwnsRS.sees {n c : Nat} {A : Option Addr} (h : OwnsRS w base (.slice A n c) ss rows) : SeesRS w A ss.length ss rows := by
  refine ⟨h.1.sees, h.2.1, fun i s r h1 h2 => ?_⟩
  obtain ⟨e0, ho⟩ := h.2.2.1 i s r h1 h2
  obtain ⟨A', c', hv, _, _, hs⟩ := ho.form
  unfold slV at hv
  injection hv with e1 e2 e3
  exact ⟨e0, e2, by rw [e1, e2]; exact hs⟩
theorem SeesRS.grow {A : Option Addr} {n : Nat} (h : SeesRS w A n ss rows) (hb : Below w.heap.size w w') : SeesRS w' A n ss rows :=
  ⟨(h.1.grow hb).more hb.size, h.2.1, fun i s r h1 h2 => ⟨(h.2.2 i s r h1 h2).1, (h.2.2 i s r h1 h2).2.1, ((h.2.2 i s r h1 h2).2.2.grow hb).more hb.size⟩⟩
/-- One route more, made behind the others; the row may have moved. -/
theorem OwnsRS.push {w2 w3 : World} {r0 : Int × List Int} {s0 : Int × Sl} {v' : Value} (h : OwnsRS w base v ss rows) (hb : Below w.heap.size w w2) (hbase : base ≤ w.heap.size) (h0 : s0.1 = r0.1) (hr : Owns elInt w2 w.heap.size 3 (slV s0.2) r0.2)
    (hown : Owns elRt w3 base 45 v' (ss ++ [s0])) (hg : Touch (fun b => v.ownBlock = some b) w2 w3) : OwnsRS w3 base v' (ss ++ [s0]) (rows ++ [r0]) := by
  have h2 := h.below hb
  refine ⟨hown, by simp [h.2.1], fun i s r h3 h4 => ?_, fun i j s t g hij h3 h4 h5 h6 => ?_⟩
  · rcases Nat.lt_or_ge i ss.length with hi | hi
    · rw [List.getElem?_append_left hi] at h3
      rw [List.getElem?_append_left (by rw [← h.2.1]; exact hi)] at h4
      obtain ⟨e0, ho⟩ := h2.2.2.1 i s r h3 h4
      exact ⟨e0, ho.touch hg (fun g hg' => owns_ne h2.1 ho (by decide) g hg')⟩
    · rw [List.getElem?_append_right hi] at h3
      rw [List.getElem?_append_right (by rw [← h.2.1]; exact hi)] at h4
      have e1 : i - ss.length = 0 := by have := (List.getElem?_eq_some_iff.1 h3).1; simp at this; omega
      have e2 : i - rows.length = 0 := by rw [← h.2.1]; exact e1
      rw [e1] at h3; rw [e2] at h4
      simp at h3 h4; subst h3; subst h4
      exact ⟨h0, (hr.touch hg (fun g hg' => owns_ne h2.1 hr (by decide) g hg')).base hbase⟩
  · rcases Nat.lt_or_ge j ss.length with hj | hj
    · rw [List.getElem?_append_left hj] at h4
      rw [List.getElem?_append_left (by omega)] at h3
      exact h.2.2.2 i j s t g hij h3 h4 h5 h6
    · rw [List.getElem?_append_right hj] at h4
      have e1 : j - ss.length = 0 := by have := (List.getElem?_eq_some_iff.1 h4).1; simp at this; omega
      rw [e1] at h4; simp at h4; subst h4
      rw [List.getElem?_append_left (by omega)] at h3
      obtain ⟨r, hrr⟩ : ∃ r, rows[i]? = some r := ⟨rows[i]'(by rw [← h.2.1]; omega), List.getElem?_eq_getElem _⟩
      have a1 := ((h.2.2.1 i s r h3 hrr).2.lies g h5).2
      have a2 := (hr.lies g h6).1
      omega
end
theorem rt_info : (Try.prog.info? 45).map (fun i => (i.zero, i.size, i.bytes)) = some (some (.agg #[.int .i64 0, .slice none 0 0]), 2, 32) := by kernel_rfl
/-- The blocks of a row of routes. -/
def rsS (v : Value) (ss : List (Int × Sl)) (b : Nat) : Prop := v.ownBlock = some b ∨ ∃ (i : Nat) (s : Int × Sl), ss[i]? = some s ∧ (slV s.2).ownBlock = some b
/-- Routes in the ledger. -/
def tRS (base : Nat) (v : Value) (ss : List (Int × Sl)) (rows : List (Int × List Int)) : Thing :=
  ⟨rsS v ss, fun w => OwnsRS w base v ss rows,
    fun _ _ ⟨a, b, c, d⟩ _ hb => ⟨a.st (fun b h => hb b (.inl h)), b, fun i s r h1 h2 => ⟨(c i s r h1 h2).1, (c i s r h1 h2).2.st (fun g h => hb g (.inr ⟨i, s, h1, h⟩))⟩, d⟩,
    fun _ h _ e => (h.lies e).2⟩
theorem Led.rs {w0 w w' : World} {L : List Thing} {v : Value} {ss : List (Int × Sl)} {rows : List (Int × List Int)} (h : Led w0 w L) (hb : Below w.heap.size w w') (ho : OwnsRS w' w.heap.size v ss rows) : Led w0 w' (tRS w.heap.size v ss rows :: L) :=
  h.put hb _ (fun _ e => (ho.lies e).1) ho
set_option maxHeartbeats 1000000 in
set_option maxRecDepth 100000 in
theorem eqRouteS_any {A A' : Option Addr} {n c c' : Nat} {ss ss' : List (Int × Sl)} {rows : List (Int × List Int)} (w : World) (h1 : SeesRS w A n ss rows) (h2 : SeesRS w A' n ss' rows) (hn : n ≤ 1048576) (hr : ∀ r ∈ rows, r.2.length ≤ 1048576) :
    Calls Try.prog 25 #[.slice A n c, .slice A' n c'] w fun e w' => e = .returned (.bool true) ∧ Below w.heap.size w w' := by
  have hlr : rows.length = n := by rw [← h1.2.1]; exact h1.1.len
  have HR := hid hr
  clear hr
  go_enter Try.func25, Try.ntmps25
  go_wp2
  go_loopw [5] (fun i wr => ∃ k : Nat, k ≤ n ∧ i = .int .i64 k ∧ Below w.heap.size w wr) (fun i _ => n - (intOf i).toNat)
  case atStart => exact ⟨0, Nat.zero_le _, rfl, Below.refl _ _⟩
  case round =>
    obtain ⟨k, hk, rfl, hb⟩ := hrel
    by_cases hlt : k < n
    · obtain ⟨r, hrk⟩ := get_of (k := k) hlr hlt
      obtain ⟨⟨s0, s⟩, hsk⟩ := get_of (k := k) h1.1.len hlt
      obtain ⟨⟨s0', s'⟩, hsk'⟩ := get_of (k := k) h2.1.len hlt
      obtain ⟨b, o, rfl, _, hc⟩ := h1.1.at_ hlt
      obtain ⟨b', o', rfl, _, hc'⟩ := h2.1.at_ hlt
      have f0 := bl_cell hb (hc k _ hsk 0 _ rfl)
      have f1 := bl_cell hb (hc k _ hsk 1 _ rfl)
      have f2 := bl_cell hb (hc' k _ hsk' 0 _ rfl)
      have f3 := bl_cell hb (hc' k _ hsk' 1 _ rfl)
      simp only [elRt, Nat.add_zero, slV] at f0 f1 f2 f3
      have T0 : ∀ w', Cls wr w' → w'.cell? ⟨b, o + k * 2, none⟩ = some (.int .i64 s0) := fun _ h => h.cell f0
      have T1 : ∀ w', Cls wr w' → w'.cell? ⟨b, o + k * 2 + 1, none⟩ = some (.slice s.A s.n s.c) := fun _ h => h.cell f1
      have T2 : ∀ w', Cls wr w' → w'.cell? ⟨b', o' + k * 2, none⟩ = some (.int .i64 s0') := fun _ h => h.cell f2
      have T3 : ∀ w', Cls wr w' → w'.cell? ⟨b', o' + k * 2 + 1, none⟩ = some (.slice s'.A s'.n s'.c) := fun _ h => h.cell f3
      have HE : Hid (∀ w', Cls wr w' → Calls Try.prog 30 #[.agg #[.int .i64 s0, .slice s.A s.n s.c], .agg #[.int .i64 s0', .slice s'.A s'.n s'.c]] w' fun e w2 => e = .returned (.bool true) ∧ Below w'.heap.size w' w2) := fun w' hw' => by
        have a1 := (h1.grow (bl_then hb hw')).2.2 k _ r hsk hrk
        have a2 := (h2.grow (bl_then hb hw')).2.2 k _ r hsk' hrk
        have e1 : s0' = s0 := a2.1.trans a1.1.symm
        have e2 : s'.n = s.n := a2.2.1.trans a1.2.1.symm
        have a3 := a2.2.2
        simp only at a3
        rw [e2] at a3
        rw [e1, e2]
        exact eqRoute_any s0 w' a1.2.2 a3 (by have e4 : s.n = r.2.length := a1.2.1; rw [e4]; exact HR.out r (List.mem_of_getElem? hrk))
      have iz : (k : Int) < (n : Int) := by omega
      clear hc hc' f0 f1 f2 f3
      go_wp2
      refine region_cls (by kernel_rfl) (by kernel_rfl) ?_
      repeat (first
        | ((with_reducible refine quiet_pos ?_ (fun K hK => ?_))
           · rfl
           apply Exists.intro
           refine ⟨fun w' hw' => ?_, ?_⟩
           · go_simp
             first
               | with_reducible rfl
               | go_at_call 30; with_reducible exact hw'.call (HE.out _ hw')
           simp only [Act.put, List.setIfInBounds_toArray, List.set_cons_zero, List.set_cons_succ]
           refine hK _ ?_; clear hK K)
        | ((with_reducible refine quiet_neg ?_ (fun K hK => ?_))
           · rfl
           simp only [Act.put, List.setIfInBounds_toArray, List.set_cons_zero, List.set_cons_succ]
           refine hK _ ?_; clear hK K))
      with_reducible refine wpQuiet_nil ?_
      intro wz hwz'
      go_wp2
      go_roundw
      case rel => exact ⟨k + 1, by omega, by go_num, bl_then hb hwz'⟩
      case measure => simp [intOf]; omega
    · go_wp2
      go_ret
      exact ⟨rfl, hb⟩
end Go.Proofs.Ythjnddkppodioaa
/- markRouteS, heldRouteS, walked. Conditions: at most 1048576 routes and fibers of a route; the last mark below 2^40. -/
namespace Go.Proofs.Ythjnddkppodioaa
open Go.RowKit
/-- The mark at which route j begins. -/
def offR (k : Int) (rows : List (Int × List Int)) (j : Nat) : Int := k + ((((rows.take j).map fun r => 1 + r.2.length).sum : Nat) : Int)
theorem offR_zero (k : Int) (rows : List (Int × List Int)) : offR k rows 0 = k := by simp [offR]
theorem offR_succ {k : Int} {rows : List (Int × List Int)} {j : Nat} {r : Int × List Int} (h : rows[j]? = some r) : offR k rows (j + 1) = offR k rows j + 1 + (r.2.length : Int) := by
  unfold offR
  rw [List.take_add_one, h]
  simp
  omega
theorem offR_ge (k : Int) (rows : List (Int × List Int)) (j : Nat) : k ≤ offR k rows j := by unfold offR; omega
theorem offR_le {k : Int} {rows : List (Int × List Int)} : ∀ {d j : Nat}, j + d = rows.length → offR k rows j ≤ offR k rows rows.length := by
  intro d
  induction d with
  | zero => intro j h; rw [show j = rows.length by omega]; exact Int.le_refl _
  | succ d ih =>
    intro j h
    have h1 := ih (j := j + 1) (by omega)
    obtain ⟨r, hr⟩ : ∃ r, rows[j]? = some r := ⟨rows[j]'(by omega), List.getElem?_eq_getElem _⟩
    rw [offR_succ hr] at h1
    omega
/-- All routes, marked. -/
def marksRS (k : Int) (rows : List (Int × List Int)) : List (Int × List Int) := (List.range rows.length).map fun i => (offR k rows i, marks (offR k rows i + 1) (rows.getD i (0, [])).2.length)
theorem marksRS_len (k : Int) (rows : List (Int × List Int)) : (marksRS k rows).length = rows.length := by simp [marksRS]
theorem marksRS_get {k : Int} {rows : List (Int × List Int)} {i : Nat} {r q : Int × List Int} (h : rows[i]? = some r) (hq : (marksRS k rows)[i]? = some q) : q = (offR k rows i, marks (offR k rows i + 1) r.2.length) := by
  have hi := (List.getElem?_eq_some_iff.1 h).1
  unfold marksRS at hq
  rw [List.getElem?_map, List.getElem?_range hi] at hq
  simp [h] at hq
  exact hq.symm
/-- A route's start is stored. -/
theorem Owns.rt_set {w : World} {base g c n : Nat} {ss : List (Int × Sl)} (h : Owns elRt w base 45 (.slice (some ⟨g, 0, none⟩) n c) ss) {j : Nat} {s : Int × Sl} (hj : ss[j]? = some s) (x : Int) :
    Owns elRt (w.setCell ⟨g, j * 2, none⟩ (.int .i64 x)) base 45 (.slice (some ⟨g, 0, none⟩) n c) (ss.set j (x, s.2)) := by
  rcases h.cases with ⟨h0, _⟩ | ⟨g1, c1, cur, hv, hbase, hb, hnc, hcm, hs, hf⟩
  · cases h0
  · injection hv with h1 h2 h3
    injection h1 with h1
    injection h1 with h1
    subst h1
    subst h3
    have hjl := (List.getElem?_eq_some_iff.1 hj).1
    rw [h2]
    refine Owns.of_blk (hb.set (j * 2) _) hbase (by simp) hnc (by simp [hs]) hcm (fun k y hk hy i u hu => ?_)
    rw [List.getElem?_set] at hy
    have hsz : cur.size = c * 2 := hs
    by_cases hjk : j = k
    · subst hjk
      rw [if_pos rfl, if_pos hjl] at hy
      injection hy with hy; subst hy
      have hu' : [Value.int .i64 x, slV s.2][i]? = some u := hu
      match i, hu' with
      | 0, hu' =>
        simp at hu'; subst hu'
        show (cur.setIfInBounds (j * 2) _)[j * 2 + 0]? = _
        rw [Nat.add_zero, Array.getElem?_setIfInBounds_self_of_lt (by omega)]
      | 1, hu' =>
        simp at hu'; subst hu'
        show (cur.setIfInBounds (j * 2) _)[j * 2 + 1]? = _
        rw [Array.getElem?_setIfInBounds_ne (by omega)]
        exact hf j s hk hj 1 _ rfl
      | i + 2, hu' => simp at hu'
    · rw [if_neg hjk] at hy
      have hi : i < 2 := by have := (List.getElem?_eq_some_iff.1 hu).1; rw [elRt.len y] at this; exact this
      show (cur.setIfInBounds (j * 2) _)[k * 2 + i]? = _
      rw [Array.getElem?_setIfInBounds_ne (by omega)]
      exact hf k y hk hy i u hu
theorem Owns.rt_free {w : World} {base g c n : Nat} {ss : List (Int × Sl)} (h : Owns elRt w base 45 (.slice (some ⟨g, 0, none⟩) n c) ss) (j : Nat) : w.frozen? ⟨g, j, none⟩ = false := by
  rcases h.cases with ⟨h0, _⟩ | ⟨g1, c1, cur, hv, _, hb, _⟩
  · cases h0
  · injection hv with h1 h2 h3
    injection h1 with h1
    injection h1 with h1
    subst h1
    exact hb.frozen j
/-- Route i behind j routes' marking. -/
def rowR (k : Int) (rows : List (Int × List Int)) (j i : Nat) (r : List Int) : List Int := if i < j then marks (offR k rows i + 1) r.length else r
theorem snd_of {ss tt : List (Int × Sl)} (h : tt.map (·.2) = ss.map (·.2)) {i : Nat} {t : Int × Sl} (ht : tt[i]? = some t) : ∃ s, ss[i]? = some s ∧ s.2 = t.2 := by
  have h1 : (tt.map (·.2))[i]? = some t.2 := by rw [List.getElem?_map, ht]; rfl
  rw [h, List.getElem?_map] at h1
  cases hs : ss[i]? with
  | none => rw [hs] at h1; cases h1
  | some s => rw [hs] at h1; injection h1 with h1; exact ⟨s, rfl, h1⟩
set_option maxHeartbeats 1000000 in
set_option maxRecDepth 100000 in
theorem markRouteS_any {base n c : Nat} {A : Option Addr} {ss : List (Int × Sl)} {rows : List (Int × List Int)} (k : Int) (w : World) (h : OwnsRS w base (.slice A n c) ss rows) (hsn : ss.length = n) (hn : n ≤ 1048576) (hr : ∀ r ∈ rows, r.2.length ≤ 1048576) (hk0 : 0 ≤ k)
    (hk : offR k rows n ≤ 1099511627776) :
    Calls Try.prog 26 #[.slice A n c, .int .i64 k] w fun e w' => e = .returned (.int .i64 (offR k rows n)) ∧ (∃ tt, tt.map (·.2) = ss.map (·.2) ∧ OwnsRS w' base (.slice A n c) tt (marksRS k rows)) ∧ Touch (rsS (.slice A n c) ss) w w' := by
  have hrl : rows.length = n := by rw [← h.2.1]; exact hsn
  have HR := hid hr
  have HK := hid hk
  have hd := hid h.2.2.2
  have h1 : Hid (Owns elRt w base 45 (.slice A n c) ss) := h.1
  have h2 : Hid (∀ (i : Nat) s r, ss[i]? = some s → rows[i]? = some r → Owns elInt w base 3 (slV s.2) (rowR k rows 0 i r.2)) := fun i s r a b => by unfold rowR; rw [if_neg (by omega)]; exact (h.2.2.1 i s r a b).2
  have hz : Hid (offR k rows 0 = k) := offR_zero _ _
  have h0 : Hid (0 < n → ∃ g, A = some ⟨g, 0, none⟩) := fun hp => by
    rcases h.1.cases with ⟨e, e2⟩ | ⟨g, c1, cur, hv, _⟩
    · rw [e2] at hsn; simp at hsn; omega
    · injection hv with e1; exact ⟨g, e1⟩
  clear hr hk h
  go_enter Try.func26, Try.ntmps26
  go_wp2
  go_loopw [1, 5] (fun t i wr => ∃ (j : Nat) (o : Int) (tt : List (Int × Sl)), j ≤ n ∧ i = .int .i64 j ∧ t = .int .i64 o ∧ Hid (offR k rows j = o) ∧ Hid (tt.map (·.2) = ss.map (·.2)) ∧ Hid (Owns elRt wr base 45 (.slice A n c) tt) ∧ Hid (∀ (i : Nat) t, i < j → tt[i]? = some t → t.1 = offR k rows i) ∧
    Hid (∀ (i : Nat) s r, ss[i]? = some s → rows[i]? = some r → Owns elInt wr base 3 (slV s.2) (rowR k rows j i r.2)) ∧ Touch (rsS (.slice A n c) ss) w wr) (fun _ i _ => n - (intOf i).toNat)
  case atStart => exact ⟨0, k, ss, Nat.zero_le _, rfl, rfl, hz, rfl, h1, fun i t hi => by omega, h2, Touch.refl _ _⟩
  case round =>
    clear h1 h2 hz
    obtain ⟨j, o, tt, hj, rfl, rfl, ho, htt, h1, hst, h2, ht⟩ := hrel
    by_cases hlt : j < n
    · obtain ⟨r, hrj⟩ := get_of (k := j) hrl hlt
      have htl : tt.length = n := by have := congrArg List.length htt.out; simp at this; omega
      obtain ⟨t, htj⟩ := get_of (k := j) htl hlt
      obtain ⟨s, hsj, hst2⟩ := snd_of htt.out htj
      obtain ⟨g, rfl⟩ := h0.out (by omega)
      have hso := h1.out.sees
      rw [htl] at hso
      obtain ⟨b, q, hbq, _, hc⟩ := hso.at_ hlt
      injection hbq with hbq
      injection hbq with e1 e2
      subst e1
      subst e2
      have f0 := hc j t htj 0 _ rfl
      have f1 := hc j t htj 1 _ rfl
      simp only [elRt, Nat.add_zero, Nat.zero_add, slV] at f0 f1
      have z0 := h1.out.rt_free (j * 2)
      have hown := h1.out.rt_set htj o
      have hT1 : Touch (fun b => b = g) wr (wr.setCell ⟨g, j * 2, none⟩ (.int .i64 o)) := Touch.set (S := fun b => b = g) wr (p := ⟨g, j * 2, none⟩) rfl _
      have hrw : Owns elInt wr base 3 (slV s.2) r.2 := by have := h2.out j s r hsj hrj; unfold rowR at this; rw [if_neg (by omega)] at this; exact this
      have hgo : (Value.slice (some ⟨g, 0, none⟩) n c).ownBlock = some g := rfl
      have hrw2 : Owns elInt (wr.setCell ⟨g, j * 2, none⟩ (.int .i64 o)) base 3 (slV s.2) r.2 := hrw.touch hT1 (fun g' hg' e => owns_ne h1.out hrw (by decide) g' hg' (by rw [e]; rfl))
      have hle := HR.out r (List.mem_of_getElem? hrj)
      have a1 := offR_ge k rows j
      have a2 := offR_le (k := k) (rows := rows) (d := n - j) (j := j) (by omega)
      have a4 := offR_le (k := k) (rows := rows) (d := n - (j + 1)) (j := j + 1) (by omega)
      rw [hrl] at a2 a4
      rw [offR_succ hrj] at a4
      have a3 := HK.out
      rw [ho.out] at a1 a2 a4
      have HC := hid (markIntS_any (n := r.2.length) (o + 1) _ hrw2 rfl hle (by omega) (by omega))
      unfold slV at HC
      rw [hst2] at HC
      have HG : Hid (∀ (i : Nat) s r, ss[i]? = some s → rows[i]? = some r → ¬ (slV s.2).ownBlock = some g) := fun i s r a b e => owns_ne (h2.out i s r a b) h1.out (by decide) g rfl e
      have HT1 := hid hT1
      have HOWN := hid hown
      have F0 := hid f0
      clear hso hc hrw hrw2 hown hT1 h1
      go_wp2_with fail
      refine HC.out.mono ?_
      rintro e w2 ⟨rfl, how, htw⟩
      have how2 : Owns elInt w2 base 3 (slV s.2) (marks (o + 1) r.2.length) := by unfold slV; rw [hst2]; exact how
      have htw2 : Touch (fun b => (slV s.2).ownBlock = some b) (wr.setCell ⟨g, j * 2, none⟩ (.int .i64 o)) w2 := by unfold slV; rw [hst2]; exact htw
      have HO : Hid (offR k rows (j + 1) = o + 1 + (r.2.length : Int)) := by unfold Hid; rw [offR_succ hrj, ho.out]
      have hT : Touch (rsS (.slice (some ⟨g, 0, none⟩) n c) ss) w w2 :=
        (ht.trans (HT1.out.mono (fun b hb => .inl (by rw [hb]; rfl)))).trans (htw2.mono (fun b hb => .inr ⟨j, s, hsj, hb⟩))
      have hO1 : Hid (Owns elRt w2 base 45 (.slice (some ⟨g, 0, none⟩) n c) (tt.set j (o, t.2))) := HOWN.out.touch htw2 (fun g' hg' e => by
        have e0 : g = g' := by injection hg'
        subst e0
        exact HG.out j s r hsj hrj e)
      have hO2 : Hid (∀ (i : Nat) s r, ss[i]? = some s → rows[i]? = some r → Owns elInt w2 base 3 (slV s.2) (rowR k rows (j + 1) i r.2)) := fun i s' r' e1 e2 => by
        by_cases hij : i = j
        · subst hij
          rw [hsj] at e1; rw [hrj] at e2
          injection e1 with e1; injection e2 with e2
          subst e1; subst e2
          unfold rowR; rw [if_pos (by omega), ho.out]; exact how2
        · have h3 := (h2.out i s' r' e1 e2).touch HT1.out (fun g' hg' e => HG.out i s' r' e1 e2 (by rw [← e]; exact hg'))
          have h4 := h3.touch htw2 (fun g hg hg2 => by
            rcases Nat.lt_or_gt_of_ne hij with hl | hl
            · exact hd.out i j s' s g hl e1 hsj hg hg2
            · exact hd.out j i s s' g hl hsj e1 hg2 hg)
          have e3 : rowR k rows (j + 1) i r'.2 = rowR k rows j i r'.2 := by unfold rowR; by_cases hi : i < j; rw [if_pos hi, if_pos (by omega)]; rw [if_neg hi, if_neg (by omega)]
          rw [e3]; exact h4
      have hTT : Hid ((tt.set j (o, t.2)).map (·.2) = ss.map (·.2)) := by
        unfold Hid
        rw [← htt.out, List.map_set]
        refine List.ext_getElem? fun i => ?_
        rw [List.getElem?_set]
        split
        · rename_i hij
          subst hij
          rw [List.getElem?_map, htj]
          simp
          omega
        · rfl
      have hST : Hid (∀ (i : Nat) t', i < j + 1 → (tt.set j (o, t.2))[i]? = some t' → t'.1 = offR k rows i) := fun i t' hi h => by
        rw [List.getElem?_set] at h
        split at h
        · rename_i hij
          subst hij
          split at h
          · injection h with h
            rw [← h, ho.out]
          · cases h
        · exact hst.out i t' (by omega) h
      clear HC how how2 htw htw2 HOWN HT1 h2 hst htt ht F0 f0 f1 z0 a1 a2 a3 a4 ho hst2 hsj hrj htj
      go_wp2
      go_roundw
      case rel => exact ⟨j + 1, _, _, by omega, by go_num, rfl, HO, hTT, hO1, hST, hO2, hT⟩
      case measure => simp [intOf]; omega
    · have hjn : j = n := by omega
      have HE : Hid (offR k rows n = o) := by rw [← hjn]; exact ho
      have HF : Hid (∃ tt, tt.map (·.2) = ss.map (·.2) ∧ OwnsRS wr base (.slice A n c) tt (marksRS k rows)) := by
        refine ⟨tt, htt.out, h1.out, ?_, fun i t q e1 e2 => ?_, fun i i' t t' g hi e1 e2 e3 e4 => ?_⟩
        · have := congrArg List.length htt.out
          simp at this
          rw [marksRS_len]; omega
        · have hi : i < n := by
            have := (List.getElem?_eq_some_iff.1 e2).1
            rw [marksRS_len] at this; omega
          obtain ⟨r, hri⟩ := get_of (k := i) hrl hi
          obtain ⟨s, hsi, hst2⟩ := snd_of htt.out e1
          rw [marksRS_get hri e2]
          refine ⟨hst.out i t (by omega) e1, ?_⟩
          have := h2.out i s r hsi hri
          unfold rowR at this; rw [if_pos (by omega)] at this
          rw [← hst2]
          exact this
        · obtain ⟨s, hs1, hs2⟩ := snd_of htt.out e1
          obtain ⟨s', hs1', hs2'⟩ := snd_of htt.out e2
          rw [← hs2] at e3
          rw [← hs2'] at e4
          exact hd.out i i' s s' g hi hs1 hs1' e3 e4
      clear h1 h2 ho htt hst
      go_wp2
      go_ret
      exact ⟨by rw [HE.out]; rfl, HF.out, ht⟩
set_option maxHeartbeats 1000000 in
set_option maxRecDepth 100000 in
theorem heldRouteS_any {n c : Nat} {A : Option Addr} {ss : List (Int × Sl)} {rows : List (Int × List Int)} (k : Int) (w : World) (h : SeesRS w A n ss (marksRS k rows)) (hrl : rows.length = n) (hn : n ≤ 1048576) (hr : ∀ r ∈ rows, r.2.length ≤ 1048576) (hk0 : 0 ≤ k)
    (hk : offR k rows n ≤ 1099511627776) :
    Calls Try.prog 27 #[.slice A n c, .int .i64 k] w fun e w' => e = .returned (.int .i64 (offR k rows n)) ∧ w = w' := by
  have HR := hid hr
  have HK := hid hk
  have hz : Hid (offR k rows 0 = k) := offR_zero _ _
  have HM : Hid ((marksRS k rows).length = n) := by unfold Hid; rw [marksRS_len, hrl]
  clear hr hk
  go_enter Try.func27, Try.ntmps27
  go_wp2
  go_loop [1, 5] (fun t i => ∃ (j : Nat) (o : Int), j ≤ n ∧ i = .int .i64 j ∧ t = .int .i64 o ∧ Hid (offR k rows j = o)) (fun _ i => n - (intOf i).toNat)
  case atStart => exact ⟨0, k, Nat.zero_le _, rfl, rfl, hz⟩
  case round =>
    clear hz
    obtain ⟨j, o, hj, rfl, rfl, ho⟩ := hrel
    by_cases hlt : j < n
    · obtain ⟨r, hrj⟩ := get_of (k := j) hrl hlt
      obtain ⟨q, hqj⟩ := get_of (k := j) HM.out hlt
      obtain ⟨⟨s0, s⟩, hsj⟩ := get_of (k := j) h.1.len hlt
      have hs := h.2.2 j _ q hsj hqj
      obtain ⟨b, p, rfl, _, hc⟩ := h.1.at_ hlt
      have f0 := hc j _ hsj 0 _ rfl
      have f1 := hc j _ hsj 1 _ rfl
      simp only [elRt, Nat.add_zero, slV] at f0 f1
      have hle := HR.out r (List.mem_of_getElem? hrj)
      have a1 := offR_ge k rows j
      have a2 := offR_le (k := k) (rows := rows) (d := n - j) (j := j) (by omega)
      have a4 := offR_le (k := k) (rows := rows) (d := n - (j + 1)) (j := j + 1) (by omega)
      rw [hrl] at a2 a4
      rw [offR_succ hrj] at a4
      have a3 := HK.out
      rw [ho.out] at a1 a2 a4
      rw [marksRS_get hrj hqj, ho.out] at hs
      obtain ⟨hs0, hs1, hs2⟩ := hs
      simp only [marks_len] at hs0 hs1
      have hs3 : Sees elInt w w.heap.size s.A r.2.length (marks (o + 1) r.2.length) := by
        have h5 := hs2
        simp only at h5
        rw [hs1] at h5
        exact h5
      have HC := hid (heldIntS_any (n := r.2.length) (c := s.c) (o + 1) w hs3 hle (by omega) (by omega))
      have HO : Hid (offR k rows (j + 1) = o + 1 + (r.2.length : Int)) := by unfold Hid; rw [offR_succ hrj, ho.out]
      have b1 : (0 : Int) ≤ o + 1 + (r.2.length : Int) := by omega
      rw [hs1] at f1
      rw [hs0] at f0
      clear hc hs1 hs2 hs0 hs3 hrj hqj hsj ho
      go_wp2_with fail
      refine HC.out.mono ?_
      rintro e w2 ⟨rfl, hw2⟩
      subst hw2
      go_wp2
      go_round
      case rel => exact ⟨j + 1, _, by omega, by go_num, rfl, HO⟩
      case measure => simp [intOf]; omega
    · have hjn : j = n := by omega
      have HE : Hid (offR k rows n = o) := by rw [← hjn]; exact ho
      clear ho
      go_wp2
      go_ret
      exact ⟨by rw [HE.out]; rfl, rfl⟩
end Go.Proofs.Ythjnddkppodioaa
/- Rows of routes in the ledger: equal, marked, held. Conditions: at most 1048576 routes and fibers of a route; marks below 2^40. -/
namespace Go.Proofs.Ythjnddkppodioaa
open Go.RowKit
theorem rsS_eq {v : Value} {ss tt : List (Int × Sl)} (h : tt.map (·.2) = ss.map (·.2)) : rsS v tt = rsS v ss := by
  funext b
  apply propext
  unfold rsS
  constructor
  · rintro (e | ⟨i, t, ht, e⟩)
    · exact .inl e
    · obtain ⟨s, hs, h2⟩ := snd_of h ht
      exact .inr ⟨i, s, hs, by rw [h2]; exact e⟩
  · rintro (e | ⟨i, t, ht, e⟩)
    · exact .inl e
    · obtain ⟨s, hs, h2⟩ := snd_of h.symm ht
      exact .inr ⟨i, s, hs, by rw [h2]; exact e⟩
variable {w0 w : World} {L : List Thing} {base base' n c c' : Nat} {A A' : Option Addr} {ss ss' : List (Int × Sl)} {rows : List (Int × List Int)}
theorem markRS_led (h : Led w0 w L) (i : Nat) (hi : L[i]? = some (tRS base (.slice A n c) ss rows)) (k : Int) (hsn : ss.length = n) (hn : n ≤ 1048576) (hr : ∀ r ∈ rows, r.2.length ≤ 1048576) (hk0 : 0 ≤ k) (hk : offR k rows n ≤ 1099511627776) :
    Calls Try.prog 26 #[.slice A n c, .int .i64 k] w fun e w' => e = .returned (.int .i64 (offR k rows n)) ∧ ∃ tt, tt.length = n ∧ Led w0 w' (L.set i (tRS base (.slice A n c) tt (marksRS k rows))) :=
  (markRouteS_any k w (h.get i hi) hsn hn hr hk0 hk).mono fun _ _ ⟨he, ⟨tt, htt, ho⟩, ht⟩ => ⟨he, tt, by have := congrArg List.length htt; simp at this; omega, h.touch i hi (rsS_eq htt) ht ho⟩
theorem heldRS_led (h : Led w0 w L) (i : Nat) (k : Int) (hi : L[i]? = some (tRS base (.slice A n c) ss (marksRS k rows))) (hsn : ss.length = n) (hrl : rows.length = n) (hn : n ≤ 1048576) (hr : ∀ r ∈ rows, r.2.length ≤ 1048576) (hk0 : 0 ≤ k) (hk : offR k rows n ≤ 1099511627776) :
    Calls Try.prog 27 #[.slice A n c, .int .i64 k] w fun e w' => e = .returned (.int .i64 (offR k rows n)) ∧ Led w0 w' L :=
  (heldRouteS_any k w (by have := OwnsRS.sees (h.get i hi); rw [hsn] at this; exact this) hrl hn hr hk0 hk).mono fun _ _ ⟨he, hw⟩ => ⟨he, hw ▸ h⟩
theorem rs_n (h : Led w0 w L) (i : Nat) (hi : L[i]? = some (tRS base (.slice A n c) ss rows)) : ss.length = n := by
  have h1 : OwnsRS w base _ ss rows := h.get i hi
  obtain ⟨A', c', hv, _⟩ := h1.1.form
  injection hv with _ e2
  exact e2.symm
theorem rs_rows (h : Led w0 w L) (i : Nat) (hi : L[i]? = some (tRS base (.slice A n c) ss rows)) : rows.length = n := by
  have h1 : OwnsRS w base _ ss rows := h.get i hi
  rw [← h1.2.1]
  exact rs_n h i hi
theorem eqRS_led2 (h : Led w0 w L) (i j : Nat) (hi : L[i]? = some (tRS base (.slice A n c) ss rows)) (hj : L[j]? = some (tRS base' (.slice A' n c') ss' rows)) (hn : n ≤ 1048576) (hr : ∀ r ∈ rows, r.2.length ≤ 1048576) :
    Calls Try.prog 25 #[.slice A n c, .slice A' n c'] w fun e w' => e = .returned (.bool true) ∧ Led w0 w' L ∧ Below w.heap.size w w' := by
  have h1 := OwnsRS.sees (h.get i hi)
  have h2 := OwnsRS.sees (h.get j hj)
  rw [rs_n h i hi] at h1
  rw [rs_n h j hj] at h2
  exact (eqRouteS_any w h1 h2 hn hr).mono fun _ _ ⟨he, hw⟩ => ⟨he, h.step hw, hw⟩
theorem eqRS_led (h : Led w0 w L) (i j : Nat) (hi : L[i]? = some (tRS base (.slice A n c) ss rows)) (hj : L[j]? = some (tRS base' (.slice A' n c') ss' rows)) (hn : n ≤ 1048576) (hr : ∀ r ∈ rows, r.2.length ≤ 1048576) :
    Calls Try.prog 25 #[.slice A n c, .slice A' n c'] w fun e w' => e = .returned (.bool true) ∧ Led w0 w' L :=
  (eqRS_led2 h i j hi hj hn hr).mono fun _ _ ⟨he, hw, _⟩ => ⟨he, hw⟩
end Go.Proofs.Ythjnddkppodioaa
/- A drawn region whose last operation may break the condition on the worlds: the store into a cell that the region loads. Conditions: as each states. -/
namespace Go.Proofs.Ythjnddkppodioaa
open Go.RowKit
section
variable {P : Program} {ops : Array Oper} {Q : Exit → Act → World → Prop} {md : Region.Mode} {S : World → Prop} {x : Nat}
/-- As 'wpAnyH', but behind operation x nothing is asked. -/
def wpAnyX (P : Program) (md : Region.Mode) (ops : Array Oper) (Q : Exit → Act → World → Prop) (S : World → Prop) (x : Nat) : Nat → Array Bool → Act → World → Prop
  | 0, listed, a, w => Region.ready md ops listed = [] ∧ Q .normal a w
  | fuel + 1, listed, a, w =>
    (Region.ready md ops listed = [] → Q .normal a w) ∧
    ∀ i ∈ Region.ready md ops listed, wpOp P ops Q i (fun a' w' => (i ≠ x → S w') ∧ wpAnyX P md ops Q S x fuel (listed.setIfInBounds i true) a' w') a w
theorem wpAny_of_X : ∀ (fuel : Nat) (listed : Array Bool) (a : Act) (w : World), wpAnyX P md ops Q S x fuel listed a w → wpAny P md ops Q fuel listed a w
  | 0, _, _, _, h => h
  | fuel + 1, _, _, _, h => ⟨h.1, fun i hi => wpOp_mono (fun a' w' h' => wpAny_of_X fuel _ a' w' h'.2) (h.2 i hi)⟩
/-- Operation x waits for operation i. -/
def waitsB (md : Region.Mode) (ops : Array Oper) (x i : Nat) : Bool := match ops[x]? with
  | some o => o.after.any (fun e => Region.binds md e && e.on == i)
  | none => true
theorem waits_not {listed : Array Bool} {i : Nat} (h : waitsB md ops x i = true) (hi : listed.getD i true = false) : x ∉ Region.ready md ops listed := by
  intro hx
  obtain ⟨_, o, ho, hall⟩ := mem_ready.1 hx
  unfold waitsB at h
  rw [ho] at h
  simp only [Array.any_eq_true'] at h
  obtain ⟨e, he, h2⟩ := h
  rw [Bool.and_eq_true, beq_iff_eq] at h2
  have h1 := hall e he h2.1
  rw [h2.2] at h1
  rcases Nat.lt_or_ge i listed.size with h' | h'
  · simp [h'] at hi h1; rw [hi] at h1; cases h1
  · simp [Array.getElem?_eq_none h'] at h1
theorem wpAnyX_first {i : Nat} {oi : Oper} {v : Value} (hi : ops[i]? = some oi) (hsel : ∀ (j : Nat) (o : Oper) cs b, ops[j]? = some o → o.op ≠ .select cs b)
    (hQ : ∀ c a w, Q (.panic c) (a.put oi.dst v) w → Q (.panic c) a w) (hx : waitsB md ops x i = true) :
    ∀ (fuel : Nat) (listed : Array Bool) (a : Act) (w : World),
      (∀ j oj, ops[j]? = some oj → j ≠ i → listed.getD j true = false → (∀ e ∈ oj.after, Region.binds md e = true → e.on ≠ i) → oi.apart ops oj = true) →
      i ∈ Region.ready md ops listed → YieldsIf P ops S oi v a → S w →
      wpAnyX P md ops Q S x fuel (listed.setIfInBounds i true) (a.put oi.dst v) w → wpAnyX P md ops Q S x (fuel + 1) listed a w := by
  intro fuel
  induction fuel with
  | zero =>
    intro listed a w _ hr hy hS H
    refine ⟨fun h => (by rw [h] at hr; cases hr), fun j hj => ?_⟩
    by_cases hji : j = i
    · subst hji; exact hy.wpOp hi hS ⟨fun _ => hS, H⟩
    · have := ready_mono hj hji
      rw [H.1] at this
      cases this
  | succ fuel ih =>
    intro listed a w hfree hr hy hS H
    refine ⟨fun h => (by rw [h] at hr; cases hr), fun j hj => ?_⟩
    by_cases hji : j = i
    · subst hji; exact hy.wpOp hi hS ⟨fun _ => hS, H⟩
    · have hjx : j ≠ x := fun e => waits_not hx (mem_ready.1 hr).1 (e ▸ hj)
      have h1 := H.2 j (ready_mono hj hji)
      obtain ⟨hjun, oj, hoj, hall⟩ := mem_ready.1 hj
      have hnot : ∀ e ∈ oj.after, Region.binds md e = true → e.on ≠ i := fun e he hb heq => by
        have h1 := hall e he hb
        have h0 := (mem_ready.1 hr).1
        rw [heq] at h1
        rcases Nat.lt_or_ge i listed.size with h' | h'
        · simp [h'] at h0 h1; rw [h0] at h1; cases h1
        · simp [Array.getElem?_eq_none h'] at h1
      have h2 := wpOp_putIf hoj (hfree j oj hoj hji hjun hnot) (fun cs b => hsel i oi cs b hi) (fun cs b => hsel j oj cs b hoj) hQ hy h1
      have hfree' : ∀ k ok, ops[k]? = some ok → k ≠ i → (listed.setIfInBounds j true).getD k true = false →
          (∀ e ∈ ok.after, Region.binds md e = true → e.on ≠ i) → oi.apart ops ok = true := fun k ok hk hki hun hno => by
        refine hfree k ok hk hki ?_ hno
        by_cases hjk : j = k
        · subst hjk; exact hjun
        · rw [getD_set_ne true hjk] at hun; exact hun
      refine wpOp_mono (fun a' w' h3 => ⟨fun _ => h3.2.1 hjx, ih (listed.setIfInBounds j true) a' w' hfree' (ready_mono hr (Ne.symm hji)) h3.1 (h3.2.1 hjx) ?_⟩) h2
      rw [Array.setIfInBounds_comm _ _ hji]
      exact h3.2.2
theorem wpAnyX_take {i : Nat} {oi : Oper} {v : Value} {fuel : Nat} {listed : Array Bool} {a : Act} {w : World} (hi : ops[i]? = some oi)
    (hs : Region.noSelect ops = true) (hf : Region.free md ops listed i = true) (hr : (Region.ready md ops listed).contains i = true) (hx : waitsB md ops x i = true)
    (hQ : ∀ c a w, Q (.panic c) (a.put oi.dst v) w → Q (.panic c) a w) (hy : YieldsIf P ops S oi v a) (hS : S w)
    (h : wpAnyX P md ops Q S x fuel (listed.setIfInBounds i true) (a.put oi.dst v) w) : wpAnyX P md ops Q S x (fuel + 1) listed a w :=
  wpAnyX_first hi (Region.noSelect_spec hs) hQ hx fuel listed a w (Region.free_spec hi hf) (by simpa using hr) hy hS h
theorem wpAnyX_done {listed : Array Bool} {a : Act} {w : World} (hr : Region.ready md ops listed = []) (h : Q .normal a w) :
    ∀ fuel, wpAnyX P md ops Q S x fuel listed a w
  | 0 => ⟨hr, h⟩
  | _ + 1 => ⟨fun _ => h, by rw [hr]; simp⟩
def AllReadyX (P : Program) (md : Region.Mode) (ops : Array Oper) (Q : Exit → Act → World → Prop) (S : World → Prop) (x fuel : Nat) (listed : Array Bool) (a : Act) (w : World) (rs : List Nat) : Prop :=
  ∀ i ∈ rs, wpOp P ops Q i (fun a' w' => (i ≠ x → S w') ∧ wpAnyX P md ops Q S x fuel (listed.setIfInBounds i true) a' w') a w
theorem AllReadyX.nil {fuel : Nat} {listed : Array Bool} {a : Act} {w : World} : AllReadyX P md ops Q S x fuel listed a w [] := fun _ h => by cases h
theorem AllReadyX.cons {fuel : Nat} {listed : Array Bool} {a : Act} {w : World} {i : Nat} {o : Oper} {rs : List Nat} (ho : ops[i]? = some o)
    (h : ∀ K' : Act → World → Prop, Shut (∀ a w, S w → (S w → wpAnyX P md ops Q S x fuel (listed.setIfInBounds i true) a w) → K' a w) → if Region.wanted o (yielded ops a.tmps) = true then Oper.wp P o a w K' Q else K' (a.put o.dst undef) w)
    (hs : AllReadyX P md ops Q S x fuel listed a w rs) : AllReadyX P md ops Q S x fuel listed a w (i :: rs) := fun j hj => by
  rcases List.mem_cons.1 hj with rfl | hj
  · exact wpOp_step ho (fun K' hK => h K' (fun a w hS hW => hK a w ⟨fun _ => hS, hW hS⟩))
  · exact hs j hj
/-- The operation behind which nothing is asked. -/
theorem AllReadyX.last {fuel : Nat} {listed : Array Bool} {a : Act} {w : World} {o : Oper} (ho : ops[x]? = some o)
    (h : ∀ K' : Act → World → Prop, Shut (∀ a w, wpAnyX P md ops Q S x fuel (listed.setIfInBounds x true) a w → K' a w) → if Region.wanted o (yielded ops a.tmps) = true then Oper.wp P o a w K' Q else K' (a.put o.dst undef) w) : AllReadyX P md ops Q S x fuel listed a w [x] := fun j hj => by
  rcases List.mem_cons.1 hj with rfl | hj
  · exact wpOp_step ho (fun K' hK => h K' (fun a w hW => hK a w ⟨fun e => absurd rfl e, hW⟩))
  · cases hj
theorem wpAnyX_ready {rs : List Nat} {fuel : Nat} {listed : Array Bool} {a : Act} {w : World} (hr : Region.ready md ops listed = rs) (hne : rs ≠ [])
    (h : AllReadyX P md ops Q S x fuel listed a w rs) : wpAnyX P md ops Q S x (fuel + 1) listed a w := ⟨fun h0 => absurd (hr ▸ h0) hne, hr ▸ h⟩
theorem wp_region_heldX (x : Nat) (S : World → Prop) {id : Nat} {a : Act} {w : World} (hm : P.follows .mixedOrders = true) (hS : S w.drew)
    (h : S w.drew → wpAnyX P .any ops Q S x ops.size (Array.replicate ops.size false) a w.drew) : (Code.region id ops true).wp P Q a w :=
  wp_region_any hm (wpAny_of_X _ _ _ _ (h hS))
end
end Go.Proofs.Ythjnddkppodioaa
/- Things of a ledger put into another order, two made one; a route appended to a row of routes. Conditions: none. -/
namespace Go.Proofs.Ythjnddkppodioaa
open Go.RowKit
/-- The same things in another order, or some of them. -/
theorem Led.reidx {w0 w : World} {L L' : List Thing} (h : Led w0 w L) (f : Nat → Nat) (hf : ∀ i j, i ≠ j → f i ≠ f j) (hL : ∀ (i : Nat) t, L'[i]? = some t → L[f i]? = some t) : Led w0 w L' :=
  ⟨h.bl, fun i t hi => h.all (f i) t (hL i t hi), fun i j a b hij ha hb => h.apart (f i) (f j) a b (hf i j hij) (hL i a ha) (hL j b hb)⟩
/-- Two things as one. -/
def tBoth (t a : Thing) : Thing :=
  ⟨fun b => t.S b ∨ a.S b, fun w => t.is w ∧ a.is w, fun w w' h hs hb => ⟨t.st w w' h.1 hs (fun b h => hb b (.inl h)), a.st w w' h.2 hs (fun b h => hb b (.inr h))⟩,
    fun w h b e => by rcases e with e | e; exact t.lies w h.1 b e; exact a.lies w h.2 b e⟩
theorem Led.merge {w0 w : World} {L : List Thing} {a t : Thing} (h : Led w0 w (a :: L)) (j : Nat) (hj : L[j]? = some t) : Led w0 w (L.set j (tBoth t a)) := by
  have ha := h.all 0 a rfl
  have ht := h.all (j + 1) t (by simpa using hj)
  have key : ∀ (i : Nat) u, (L.set j (tBoth t a))[i]? = some u → (i = j ∧ u = tBoth t a) ∨ (i ≠ j ∧ L[i]? = some u) := by
    intro i u hu
    rw [List.getElem?_set] at hu
    by_cases hij : j = i
    · subst hij
      rw [if_pos rfl] at hu
      split at hu
      · injection hu with hu; exact .inl ⟨rfl, hu.symm⟩
      · cases hu
    · rw [if_neg hij] at hu; exact .inr ⟨fun e => hij e.symm, hu⟩
  have ap : ∀ (i : Nat) u, i ≠ j → L[i]? = some u → ∀ k, (t.S k ∨ a.S k) → ¬ u.S k := by
    intro i u hij hu k hk h2
    rcases hk with hk | hk
    · exact h.apart (j + 1) (i + 1) t u (by omega) (by simpa using hj) (by simpa using hu) k hk h2
    · exact h.apart 0 (i + 1) a u (by omega) rfl (by simpa using hu) k hk h2
  refine ⟨h.bl, fun i u hu => ?_, fun i k u v hik hu hv x h1 h2 => ?_⟩
  · rcases key i u hu with ⟨rfl, rfl⟩ | ⟨_, hu'⟩
    · exact ⟨⟨ht.1, ha.1⟩, fun b hb => by rcases hb with hb | hb; exact ht.2 b hb; exact ha.2 b hb⟩
    · exact h.all (i + 1) u (by simpa using hu')
  · rcases key i u hu with ⟨rfl, rfl⟩ | ⟨hi, hu'⟩
    · rcases key k v hv with ⟨rfl, rfl⟩ | ⟨hk, hv'⟩
      · exact hik rfl
      · exact ap k v hk hv' x h1 h2
    · rcases key k v hv with ⟨rfl, rfl⟩ | ⟨hk, hv'⟩
      · exact ap i u hi hu' x h2 h1
      · exact h.apart (i + 1) (k + 1) u v (by omega) (by simpa using hu') (by simpa using hv') x h1 h2
/-- One route more; its row lay apart. -/
theorem OwnsRS.push2 {w w3 : World} {base b : Nat} {v v' : Value} {ss : List (Int × Sl)} {rows : List (Int × List Int)} {r0 : Int × List Int} {s0 : Int × Sl} (h : OwnsRS w base v ss rows) (h0 : s0.1 = r0.1) (hb : base ≤ b) (hr : Owns elInt w b 3 (slV s0.2) r0.2)
    (hap : ∀ k, rsS v ss k → ¬ (slV s0.2).ownBlock = some k) (hown : Owns elRt w3 base 45 v' (ss ++ [s0])) (hg : Touch (fun b => v.ownBlock = some b) w w3) : OwnsRS w3 base v' (ss ++ [s0]) (rows ++ [r0]) := by
  refine ⟨hown, by simp [h.2.1], fun i s r h3 h4 => ?_, fun i j s t g hij h3 h4 h5 h6 => ?_⟩
  · rcases Nat.lt_or_ge i ss.length with hi | hi
    · rw [List.getElem?_append_left hi] at h3
      rw [List.getElem?_append_left (by rw [← h.2.1]; exact hi)] at h4
      obtain ⟨e0, ho⟩ := h.2.2.1 i s r h3 h4
      exact ⟨e0, ho.touch hg (fun g hg' => owns_ne h.1 ho (by decide) g hg')⟩
    · rw [List.getElem?_append_right hi] at h3
      rw [List.getElem?_append_right (by rw [← h.2.1]; exact hi)] at h4
      have e1 : i - ss.length = 0 := by have := (List.getElem?_eq_some_iff.1 h3).1; simp at this; omega
      have e2 : i - rows.length = 0 := by rw [← h.2.1]; exact e1
      rw [e1] at h3; rw [e2] at h4
      simp at h3 h4; subst h3; subst h4
      exact ⟨h0, (hr.touch hg (fun g hg' => owns_ne h.1 hr (by decide) g hg')).base hb⟩
  · rcases Nat.lt_or_ge j ss.length with hj | hj
    · rw [List.getElem?_append_left hj] at h4
      rw [List.getElem?_append_left (by omega)] at h3
      exact h.2.2.2 i j s t g hij h3 h4 h5 h6
    · rw [List.getElem?_append_right hj] at h4
      have e1 : j - ss.length = 0 := by have := (List.getElem?_eq_some_iff.1 h4).1; simp at this; omega
      rw [e1] at h4; simp at h4; subst h4
      rw [List.getElem?_append_left (by omega)] at h3
      exact hap g (.inr ⟨i, s, h3, h5⟩) h6
section
variable {w0 w : World} {L : List Thing} {ops : Array Oper} {o : Oper} {a : Act} {Q : Exit → Act → World → Prop} {K : Act → World → Prop} {F : Prop}
/-- append of one route whose row of fibers is the newest thing of the ledger. -/
theorem step_append_rs (hgd : o.guard = none) (s x : Operand) (ho : o.op = .call { callee := .builtin .append, args := #[s, x], argTypes := #[39, 39] }) {base b B c : Nat} {v : Value} {ss : List (Int × Sl)} {rows : List (Int × List Int)} {r0 : Int × List Int} {s0 : Int × Sl} {X : Option Addr}
    (hS : Led w0 w (tOwns elInt b 3 (slV s0.2) r0.2 :: L)) (j : Nat) (hj : L[j]? = some (tRS base v ss rows)) (h0 : s0.1 = r0.1) (hbb : base ≤ b) (hs : a.eval s = v) (hx : a.eval x = .slice X 1 c) (hX : Sees elRt w B X 1 [s0]) (h63 : ss.length + 1 ≤ 1099511627776) (hbase : base ≤ w.heap.size)
    (h : ∀ A' c' w', Led w0 w' (L.set j (tRS base (.slice A' (ss.length + 1) c') (ss ++ [s0]) (rows ++ [r0]))) → K (a.put o.dst (.slice A' (ss.length + 1) c')) w') : if Region.wanted o (yielded ops a.tmps) = true then Oper.wp Try.prog o a w K Q else F := by
  have hw : Region.wanted o (yielded ops a.tmps) = true := by simp [Region.wanted, hgd]
  rw [if_pos hw]
  obtain ⟨i0, hi, hz0, hz1, hz2⟩ := info_parts rt_info
  have hR : OwnsRS w base v ss rows := hS.get (j + 1) (by simpa using hj)
  have hF : Owns elInt w b 3 (slV s0.2) r0.2 := hS.get 0 rfl
  obtain ⟨A', c', w', hr, h2, h3, h4⟩ := run_append_all (P := Try.prog) (ty := o.type) (c := c) Try.underlying39 hi hz0 hz1 rfl hR.1 hX h63 (by rw [hz2]; decide) hbase
  unfold Oper.wp execOp
  simp only [ho, resolve, invoke, builtin, Sem.run_bind, Sem.run_pure, Result.andThen_ok, List.map_toArray, List.map_cons, List.map_nil, hs, hx, hr]
  have hT : Touch (fun b => v.ownBlock = some b) w w' := ⟨h3.os, h3.tape, h3.output, h3.size, fun k hk hn => h3.block k hk (fun e => hn e.symm)⟩
  have hap : ∀ k, rsS v ss k → ¬ (slV s0.2).ownBlock = some k := fun k h1 h5 => hS.apart (j + 1) 0 _ _ (by omega) (by simpa using hj) rfl k h1 h5
  have hnew := hR.push2 h0 hbb hF hap h2 hT
  have hm := hS.merge j hj
  have hjl : (L.set j (tBoth (tRS base v ss rows) (tOwns elInt b 3 (slV s0.2) r0.2)))[j]? = some (tBoth (tRS base v ss rows) (tOwns elInt b 3 (slV s0.2) r0.2)) := by
    rw [List.getElem?_set_self (List.getElem?_eq_some_iff.1 hj).1]
  have hfin := hm.regrow j hjl (t' := tRS base (.slice A' (ss.length + 1) c') (ss ++ [s0]) (rows ++ [r0])) (hT.mono fun b hb => .inl (.inl hb)) (fun k hk => by
    rcases hk with hk | ⟨i, t, ht, hk⟩
    · rcases h4 k hk with h5 | h5
      · exact .inl (.inl (.inl h5))
      · exact .inr (by omega)
    · rcases Nat.lt_or_ge i ss.length with hi | hi
      · rw [List.getElem?_append_left hi] at ht
        exact .inl (.inl (.inr ⟨i, t, ht, hk⟩))
      · rw [List.getElem?_append_right hi] at ht
        have e1 : i - ss.length = 0 := by have := (List.getElem?_eq_some_iff.1 ht).1; simp at this; omega
        rw [e1] at ht; simp at ht; subst ht
        exact .inl (.inr hk)) hnew
  rw [List.set_set] at hfin
  exact h A' c' w' hfin
end
end Go.Proofs.Ythjnddkppodioaa
/- Things of a ledger, picked and put into another order. Conditions: none. -/
namespace Go.Proofs.Ythjnddkppodioaa
open Go.RowKit
/-- A proposition kept apart (no assumption is taken for it). -/
structure Kept (P : Prop) : Prop where
  out : P
theorem share {P G : Prop} (k : Kept P → G) (h : P) : G := k ⟨h⟩
theorem Led.pick {w0 w : World} {L : List Thing} (h : Led w0 w L) (is : List Nat) (hn : is.Nodup) (he : is.all (fun i => decide (i < L.length)) = true) : Led w0 w (is.filterMap fun i => L[i]?) := by
  have hm : is.map (fun i => L[i]?) = (is.filterMap fun i => L[i]?).map some := by
    clear hn
    induction is with
    | nil => rfl
    | cons x is ih =>
      rw [List.all_cons, Bool.and_eq_true, decide_eq_true_eq] at he
      rw [List.map_cons, List.filterMap_cons, List.getElem?_eq_getElem he.1, ih he.2]
      rfl
  have key : ∀ (i : Nat) t, (is.filterMap fun i => L[i]?)[i]? = some t → ∃ k, is[i]? = some k ∧ L[k]? = some t := fun i t ht => by
    have h1 : (is.map (fun i => L[i]?))[i]? = some (some t) := by rw [hm, List.getElem?_map, ht]; rfl
    rw [List.getElem?_map] at h1
    cases hk : is[i]? with
    | none => rw [hk] at h1; cases h1
    | some k =>
      rw [hk] at h1
      injection h1 with h1
      exact ⟨k, rfl, h1⟩
  refine ⟨h.bl, fun i t ht => ?_, fun i j a b hij ha hb => ?_⟩
  · obtain ⟨k, _, hk⟩ := key i t ht
    exact h.all k t hk
  · obtain ⟨k, hk1, hk⟩ := key i a ha
    obtain ⟨l, hl1, hl⟩ := key j b hb
    exact h.apart k l a b (fun e => hij (by
      subst e
      exact (List.getElem?_inj (List.getElem?_eq_some_iff.1 hk1).1 hn).1 (hk1.trans hl1.symm))) hk hl
end Go.Proofs.Ythjnddkppodioaa
/- Stores into a row of numbers of the ledger. Conditions: none. -/
namespace Go.Proofs.Ythjnddkppodioaa
open Go.RowKit
section
variable {w0 w w' : World} {L : List Thing}
/-- A row of one element at least lies at a block's head. -/
theorem Led.row {α : Type} {E : El α} (h : Led w0 w L) (i : Nat) {base : Nat} {e : TypeId} {v : Value} {xs : List α} (hi : L[i]? = some (tOwns E base e v xs)) (hne : 0 < xs.length) : ∃ g c, v = .slice (some ⟨g, 0, none⟩) xs.length c := by
  rcases Owns.cases (h.own i hi) with ⟨_, h0⟩ | ⟨g, c, cur, hv, _⟩
  · rw [h0] at hne; simp at hne
  · exact ⟨g, c, hv⟩
theorem Led.row_ {α : Type} {E : El α} (h : Led w0 w L) (i : Nat) {base n : Nat} {e : TypeId} {v : Value} {xs : List α} (hi : L[i]? = some (tOwns E base e v xs)) (hn : xs.length = n) (hne : 0 < n) : ∃ g c, v = .slice (some ⟨g, 0, none⟩) n c := by
  subst hn; exact h.row i hi hne
theorem Led.int_at (h : Led w0 w L) (i : Nat) {base g c n : Nat} {xs : List Int} (hi : L[i]? = some (tOwns elInt base 3 (.slice (some ⟨g, 0, none⟩) n c) xs)) {j : Nat} (hj : j < xs.length) : w.cell? ⟨g, j, none⟩ = some (.int .i64 (valL xs j)) := by
  rcases Owns.cases (h.own i hi) with ⟨h0, _⟩ | ⟨g1, c1, cur, hv, _, hb, _, _, _, hf⟩
  · cases h0
  · injection hv with h1 h2 h3
    injection h1 with h1
    injection h1 with h1
    subst h1
    have := hf j _ hj (valL_get hj) 0 _ rfl
    rw [hb.cell]
    simpa [elInt] using this
theorem Led.int_free (h : Led w0 w L) (i : Nat) {base g c n : Nat} {xs : List Int} (hi : L[i]? = some (tOwns elInt base 3 (.slice (some ⟨g, 0, none⟩) n c) xs)) (j : Nat) : w.frozen? ⟨g, j, none⟩ = false := by
  rcases Owns.cases (h.own i hi) with ⟨h0, _⟩ | ⟨g1, c1, cur, hv, _, hb, _, _, _, hf⟩
  · cases h0
  · injection hv with h1 h2 h3
    injection h1 with h1
    injection h1 with h1
    subst h1
    exact hb.frozen j
/-- One number is stored. -/
theorem Led.int_set (h : Led w0 w L) (i : Nat) {base g c n : Nat} {xs : List Int} (hi : L[i]? = some (tOwns elInt base 3 (.slice (some ⟨g, 0, none⟩) n c) xs)) {j : Nat} (hj : j < xs.length) (x : Int) :
    Led w0 (w.setCell ⟨g, j, none⟩ (.int .i64 x)) (L.set i (tOwns elInt base 3 (.slice (some ⟨g, 0, none⟩) n c) (xs.set j x))) := by
  have ho := h.own i hi
  rcases Owns.cases ho with ⟨h0, _⟩ | ⟨g1, c1, cur, hv, hbase, hb, hnc, hcm, hs, hf⟩
  · cases h0
  · injection hv with h1 h2 h3
    injection h1 with h1
    injection h1 with h1
    subst h1
    subst h3
    refine h.touch i hi rfl (Touch.set (S := fun b => (Value.slice (some ⟨g, 0, none⟩) n c).ownBlock = some b) w (p := ⟨g, j, none⟩) rfl _) ?_
    show Owns elInt _ base 3 (.slice (some ⟨g, 0, none⟩) n c) (xs.set j x)
    rw [h2]
    refine Owns.of_blk (hb.set j _) hbase (by simp) hnc (by simp [hs]) hcm (fun k y hk hy i u hu => ?_)
    have hu' : [Value.int .i64 y][i]? = some u := hu
    match i, hu' with
    | 0, hu' =>
      simp at hu'; subst hu'
      have e : k * elInt.sz + 0 = k := by show k * 1 + 0 = k; omega
      rw [e]
      rw [List.getElem?_set] at hy
      by_cases hjk : j = k
      · subst hjk
        rw [if_pos rfl, if_pos hj] at hy
        injection hy with hy; subst hy
        have hlt : j < cur.size := by rw [hs]; show j < c * 1; omega
        rw [Array.getElem?_setIfInBounds_self_of_lt hlt]
      · rw [if_neg hjk] at hy
        rw [Array.getElem?_setIfInBounds_ne hjk]
        have := hf k y hk hy 0 _ rfl
        rw [e] at this
        exact this
    | i + 1, hu' => simp at hu'
end
theorem marks_succ (k : Int) (n : Nat) : marks k (n + 1) = marks k n ++ [k + (n : Int)] := by simp [marks, List.range_succ]
end Go.Proofs.Ythjnddkppodioaa
/- impl.components: the components without some fibers, walked. Conditions: the fibers' ends are nodes; 2 nodes at least. -/
namespace Go.Proofs.Ythjnddkppodioaa
open Go.RowKit
section
variable {n c m d : Nat} {A A' : Option Addr} {xs : List ByteArray} {fs : List Fib}
/-- Fiber j is gone. -/
def goneF (l : List Int) (j : Nat) : Bool := hasB l (j : Int)
theorem goodB_ends (h : goodB xs fs = true) : endsB xs.length fs := fun i hi => by
  have h1 := goodB_fibB h (List.getElem_mem hi)
  have e : fibD fs i = fs[i] := getD_of (List.getElem?_eq_getElem hi)
  rw [e]
  unfold fibB at h1; simp at h1; omega
set_option maxHeartbeats 2000000 in
set_option maxRecDepth 100000 in
theorem components_any {B k c' : Nat} {G : Option Addr} {l : List Int} (w : World) (h : NetIs w A n c A' m d xs fs) (hv : Sees elInt w B G k l) (hkb : k ≤ 1048576) (he : endsB n fs) (hn0 : 0 < n) :
    Calls Try.prog 81 #[.agg #[.slice A n c, .slice A' m d], .slice G k c'] w fun e w' => ∃ v, e = .returned v ∧ Owns elInt w' w.heap.size 3 v (compL (goneF l) fs n) ∧ Below w.heap.size w w' := by
  obtain ⟨i0, hi, hz0, hz1, hz2⟩ := info_parts int_info
  have hlf := hid h.flen
  have hm := h.mle
  have hn := h.nle
  have HE := hid he
  have HV := hid hv
  have HF := hid h
  have hS := ((Led.nil w).blk_ w.heap.size rfl 32 #[.slice A n c, .slice A' m d]).empty elInt 3 (w.heap.size + 1) (by simp) w.heap.size (by omega)
  have HS : Hid (Led w ((w.alloc (.cells #[.slice A n c, .slice A' m d] 32)).alloc (.cells #[] 3)) [tOwns elInt w.heap.size 3 (.slice (some ⟨w.heap.size + 1, 0, none⟩) 0 0) (marks 0 0), tBlk w.heap.size 32 #[.slice A n c, .slice A' m d]]) := hS
  clear hS he hv h
  go_enter Try.func81, Try.ntmps81
  go_wp2_with fail
  go_loopw [5, 14] (fun V i wr => ∃ k : Nat, k ≤ n ∧ i = .int .i64 k ∧ Hid (Led w wr [tOwns elInt w.heap.size 3 V (marks 0 k), tBlk w.heap.size 32 #[.slice A n c, .slice A' m d]])) (fun _ i _ => n - (intOf i).toNat)
  case atStart => exact ⟨0, Nat.zero_le _, rfl, HS⟩
  case round =>
    clear HS
    obtain ⟨k, hk, rfl, HS⟩ := hrel
    by_cases hlt : k < n
    · have hml := hid (marks_len 0 k)
      obtain ⟨A1, c1, rfl, _⟩ := HS.out.form 0 rfl
      have HS2 := hid (HS.out.blk_ wr.heap.size rfl 3 #[.int .i64 k])
      have HM : Hid (marks 0 (k + 1) = marks 0 k ++ [(k : Int)]) := by unfold Hid; rw [marks_succ]; simp
      clear HS
      go_wp2_with (first
        | (at_builtin; refine wpList_append_led rfl _ _ 27 rfl HS2.out 1 rfl Try.underlying27 hi hz0 hz1 (by rw [hz2]; decide) rfl rfl rfl (show Sees elInt _ _ _ 1 [(k : Int)] from sees_new elInt _ _ _ _ rfl) (by rw [hml.out]; omega) HS2.out.bl.size ?_)
        | go_in)
      intro A2 c2 w2 hS3
      have HS3 := hid (hS3.drop 1)
      clear hS3 HS2
      go_wp2
      go_roundw
      case rel => exact ⟨k + 1, by omega, by go_num, by rw [HM.out]; exact HS3⟩
      case measure => simp [intOf]; omega
    · have hkn : k = n := by omega
      subst hkn
      obtain ⟨g, cV, rfl⟩ := HS.out.row_ 0 rfl (marks_len 0 k) hn0
      have p0 := HS.out.cell 1 0 rfl rfl
      have HS1 : Hid (Led w wr [tOwns elInt w.heap.size 3 (.slice (some ⟨g, 0, none⟩) k cV) (rndL (goneF l) fs k 0), tBlk w.heap.size 32 #[.slice A k c, .slice A' m d]]) := HS
      clear hlt HS
      go_wp2_with fail
      clear p0
      go_loopw [25] (fun i wr => ∃ r : Nat, r ≤ k ∧ i = .int .i64 r ∧ Hid (Led w wr [tOwns elInt w.heap.size 3 (.slice (some ⟨g, 0, none⟩) k cV) (rndL (goneF l) fs k r), tBlk w.heap.size 32 #[.slice A k c, .slice A' m d]])) (fun i _ => k - (intOf i).toNat)
      case atStart => exact ⟨0, Nat.zero_le _, rfl, HS1⟩
      case round =>
        clear HS1
        obtain ⟨r, hr, rfl, HS⟩ := hrel
        by_cases hlt : r < k
        · have p1 := HS.out.cell 1 1 rfl rfl
          obtain ⟨X, hX⟩ : ∃ X, X = rndL (goneF l) fs k r := ⟨_, rfl⟩
          have hXl : Hid (X.length = k) := by rw [hX]; exact rndL_len r
          have HN : Hid (rndL (goneF l) fs k (r + 1) = passL (goneF l) fs X) := by rw [hX]; rfl
          rw [← hX] at HS
          clear hX
          have HS1 : Hid (Led w wr [tOwns elInt w.heap.size 3 (.slice (some ⟨g, 0, none⟩) k cV) (passTo (goneF l) fs X 0), tBlk w.heap.size 32 #[.slice A k c, .slice A' m d]]) := HS
          clear HS
          go_wp2_with fail
          clear p1
          go_loopw [30] (fun i wr => ∃ j : Nat, j ≤ m ∧ i = .int .i64 j ∧ Hid (Led w wr [tOwns elInt w.heap.size 3 (.slice (some ⟨g, 0, none⟩) k cV) (passTo (goneF l) fs X j), tBlk w.heap.size 32 #[.slice A k c, .slice A' m d]])) (fun i _ => m - (intOf i).toNat)
          case atStart => exact ⟨0, Nat.zero_le _, rfl, HS1⟩
          case round =>
            clear HS1
            obtain ⟨j, hj, rfl, HS⟩ := hrel
            by_cases hlt2 : j < m
            · obtain ⟨b, o, rfl, _, hc⟩ := HF.out.fibs.at_ hlt2
              obtain ⟨f, hfj⟩ := get_of (k := j) hlf.out hlt2
              have f0 := bl_cell HS.out.bl (hc j f hfj 0 _ rfl)
              have f1 := bl_cell HS.out.bl (hc j f hfj 1 _ rfl)
              have f2 := bl_cell HS.out.bl (hc j f hfj 2 _ rfl)
              have f3 := bl_cell HS.out.bl (hc j f hfj 3 _ rfl)
              simp only [elFib, Nat.add_zero] at f0 f1 f2 f3
              have hfd : fibD fs j = f := getD_of hfj
              have hends := HE.out j (by rw [hlf.out]; exact hlt2)
              rw [hfd] at hends
              obtain ⟨a, ha⟩ : ∃ a : Nat, f.a = (a : Int) := ⟨f.a.toNat, by omega⟩
              obtain ⟨e, hb⟩ : ∃ e : Nat, f.b = (e : Int) := ⟨f.b.toNat, by omega⟩
              rw [ha, hb] at hends
              rw [ha] at f0
              rw [hb] at f1
              have HQ : Hid (goneF l j = hasB l (j : Int)) := rfl
              have HP : Hid (goneF l j = false → passTo (goneF l) fs X (j + 1) = ((passTo (goneF l) fs X j).set a (min (valL (passTo (goneF l) fs X j) a) (valL (passTo (goneF l) fs X j) e))).set e (min (valL (passTo (goneF l) fs X j) a) (valL (passTo (goneF l) fs X j) e))) := fun hq => by
                rw [passTo_no hq, hfd]; unfold joinF; rw [ha, hb]; simp
              have HP2 : Hid (goneF l j = true → passTo (goneF l) fs X (j + 1) = passTo (goneF l) fs X j) := fun hq => by rw [passTo_succ, hq]; rfl
              have hpl : Hid ((passTo (goneF l) fs X j).length = k) := (passTo_len X j).trans hXl.out
              generalize passTo (goneF l) fs X j = Y at *
              have hS1 := HS.out.blk_ wr.heap.size rfl 83 #[.int .i64 (a : Int), .int .i64 (e : Int), .int .i64 f.len, .int .i64 f.risk]
              have ia : (a : Int) < (k : Int) := by omega
              have ie : (e : Int) < (k : Int) := by omega
              have iae : a ≠ e := by omega
              clear hc hfj hfd ha hb hends
              go_wp2_with fail
              refine (containsI_any (j : Int) _ (HV.out.grow hS1.bl) (by unfold maxLen; omega)).mono ?_
              rintro e5 w5 ⟨rfl, rfl⟩
              cases gk : hasB l (j : Int)
              · have HR := hid (HP.out (by rw [HQ.out]; exact gk))
                have v0 := hS1.int_at 1 rfl (j := a) (by rw [hpl.out]; omega)
                have v1 := hS1.int_at 1 rfl (j := e) (by rw [hpl.out]; omega)
                have y0 := hS1.int_free 1 rfl a
                have y1 := hS1.int_free 1 rfl e
                clear HP HP2 HS
                go_wp2_with fail
                generalize wr.alloc (.cells #[.int .i64 (a : Int), .int .i64 (e : Int), .int .i64 f.len, .int .i64 f.risk] 83) = W0 at *
                have C0 : ∀ w', Cls W0 w' → w'.cell? ⟨wr.heap.size, 0, none⟩ = some (.int .i64 (a : Int)) := fun _ h => h.cell (hS1.cell 0 0 rfl rfl)
                have C1 : ∀ w', Cls W0 w' → w'.cell? ⟨wr.heap.size, 1, none⟩ = some (.int .i64 (e : Int)) := fun _ h => h.cell (hS1.cell 0 1 rfl rfl)
                have V0 : ∀ w', Cls W0 w' → w'.cell? ⟨g, a, none⟩ = some (.int .i64 (valL Y a)) := fun _ h => h.cell v0
                have V1 : ∀ w', Cls W0 w' → w'.cell? ⟨g, e, none⟩ = some (.int .i64 (valL Y e)) := fun _ h => h.cell v1
                clear v0 v1 y0 y1
                rcases Int.lt_or_le (valL Y e) (valL Y a) with hle | hle
                · have hx : min (valL Y a) (valL Y e) = valL Y e := by omega
                  rw [hx] at HR
                  clear hx
                  refine region_cls (by kernel_rfl) (by kernel_rfl) ?_
                  repeat (first
                    | ((with_reducible refine quiet_pos ?_ (fun K hK => ?_))
                       · rfl
                       apply Exists.intro
                       refine ⟨fun w' hw' => ?_, ?_⟩
                       · go_simp
                         with_reducible rfl
                       simp only [Act.put, List.setIfInBounds_toArray, List.set_cons_zero, List.set_cons_succ]
                       refine hK _ ?_; clear hK K)
                    | ((with_reducible refine quiet_neg ?_ (fun K hK => ?_))
                       · rfl
                       simp only [Act.put, List.setIfInBounds_toArray, List.set_cons_zero, List.set_cons_succ]
                       refine hK _ ?_; clear hK K))
                  with_reducible refine wpQuiet_nil ?_
                  intro wz hwz'
                  have hS2 := hS1.step hwz'
                  clear C0 C1 V0 V1 hwz' hS1
                  have q0 := hS2.cell 0 0 rfl rfl
                  have q1 := hS2.cell 0 1 rfl rfl
                  have v0 := hS2.int_at 1 rfl (j := a) (by rw [hpl.out]; omega)
                  have v1 := hS2.int_at 1 rfl (j := e) (by rw [hpl.out]; omega)
                  have y0 := hS2.int_free 1 rfl a
                  have y1 := hS2.int_free 1 rfl e
                  have hS3 := hS2.int_set 1 rfl (j := a) (by rw [hpl.out]; omega) (valL Y e)
                  have q2 := hS3.cell 0 0 rfl rfl
                  have q3 := hS3.cell 0 1 rfl rfl
                  have v2 := hS3.int_at 1 rfl (j := e) (by simp; rw [hpl.out]; omega)
                  have y2 := hS3.int_free 1 rfl e
                  clear hS3
                  have HS2 : Hid (∀ u, Led w (((wz.setCell ⟨g, a, none⟩ (.int .i64 (valL Y e))).setCell ⟨g, e, none⟩ (.int .i64 (valL Y e))).drewN u) _) := fun u => (((hS2.int_set 1 rfl (j := a) (by rw [hpl.out]; omega) (valL Y e)).int_set 1 rfl (j := e) (by simp; rw [hpl.out]; omega) (valL Y e)).drop 1).step (bl_drewN (Below.refl _ _) u)
                  clear hS2
                  go_wp2_with fail
                  go_region
                  all_goals
                    go_wp2_with fail
                    refine ⟨?_, by simp [intOf]; omega⟩
                    first
                      | exact ⟨j + 1, by omega, by go_num, by rw [HR.out]; exact HS2.out 1⟩
                      | ((repeat apply Exists.intro); exact ⟨⟨j + 1, by omega, by go_num, by rw [HR.out]; exact HS2.out 1⟩, rfl⟩)
                · have hx : min (valL Y a) (valL Y e) = valL Y a := by omega
                  rw [hx] at HR
                  clear hx
                  refine region_cls (by kernel_rfl) (by kernel_rfl) ?_
                  repeat (first
                    | ((with_reducible refine quiet_pos ?_ (fun K hK => ?_))
                       · rfl
                       apply Exists.intro
                       refine ⟨fun w' hw' => ?_, ?_⟩
                       · go_simp
                         with_reducible rfl
                       simp only [Act.put, List.setIfInBounds_toArray, List.set_cons_zero, List.set_cons_succ]
                       refine hK _ ?_; clear hK K)
                    | ((with_reducible refine quiet_neg ?_ (fun K hK => ?_))
                       · rfl
                       simp only [Act.put, List.setIfInBounds_toArray, List.set_cons_zero, List.set_cons_succ]
                       refine hK _ ?_; clear hK K))
                  with_reducible refine wpQuiet_nil ?_
                  intro wz hwz'
                  have hS2 := hS1.step hwz'
                  clear C0 C1 V0 V1 hwz' hS1
                  have q0 := hS2.cell 0 0 rfl rfl
                  have q1 := hS2.cell 0 1 rfl rfl
                  have v0 := hS2.int_at 1 rfl (j := a) (by rw [hpl.out]; omega)
                  have v1 := hS2.int_at 1 rfl (j := e) (by rw [hpl.out]; omega)
                  have y0 := hS2.int_free 1 rfl a
                  have y1 := hS2.int_free 1 rfl e
                  have hS3 := hS2.int_set 1 rfl (j := a) (by rw [hpl.out]; omega) (valL Y a)
                  have q2 := hS3.cell 0 0 rfl rfl
                  have q3 := hS3.cell 0 1 rfl rfl
                  have v2 := hS3.int_at 1 rfl (j := e) (by simp; rw [hpl.out]; omega)
                  have y2 := hS3.int_free 1 rfl e
                  clear hS3
                  have HS2 : Hid (∀ u, Led w (((wz.setCell ⟨g, a, none⟩ (.int .i64 (valL Y a))).setCell ⟨g, e, none⟩ (.int .i64 (valL Y a))).drewN u) _) := fun u => (((hS2.int_set 1 rfl (j := a) (by rw [hpl.out]; omega) (valL Y a)).int_set 1 rfl (j := e) (by simp; rw [hpl.out]; omega) (valL Y a)).drop 1).step (bl_drewN (Below.refl _ _) u)
                  clear hS2
                  go_wp2_with fail
                  go_region
                  all_goals
                    go_wp2_with fail
                    refine ⟨?_, by simp [intOf]; omega⟩
                    first
                      | exact ⟨j + 1, by omega, by go_num, by rw [HR.out]; exact HS2.out 1⟩
                      | ((repeat apply Exists.intro); exact ⟨⟨j + 1, by omega, by go_num, by rw [HR.out]; exact HS2.out 1⟩, rfl⟩)
              · have HR := hid (HP2.out (by rw [HQ.out]; exact gk))
                have HS2 := hid (hS1.drop 1)
                clear hS1 HP HP2 HS
                go_wp2
                refine ⟨?_, by simp [intOf]; omega⟩
                first
                  | exact ⟨j + 1, by omega, by go_num, by rw [HR.out]; exact HS2⟩
                  | ((repeat apply Exists.intro); exact ⟨⟨j + 1, by omega, by go_num, by rw [HR.out]; exact HS2⟩, rfl⟩)
            · have hjm : j = m := by omega
              have HR : Hid (rndL (goneF l) fs k (r + 1) = passTo (goneF l) fs X j) := by unfold Hid; rw [HN.out, hjm, ← hlf.out]; rfl
              clear hjm
              go_wp2
              refine ⟨?_, by simp [intOf]; omega⟩
              first
                | exact ⟨r + 1, by omega, by go_num, by rw [HR.out]; exact HS⟩
                | ((repeat apply Exists.intro); exact ⟨⟨r + 1, by omega, by go_num, by rw [HR.out]; exact HS⟩, rfl⟩)
        · have hrk : r = k := by omega
          have HR : Hid (compL (goneF l) fs k = rndL (goneF l) fs k r) := by rw [hrk]; rfl
          clear hrk
          go_wp2
          go_ret
          exact ⟨_, rfl, by rw [HR.out]; exact HS.out.own 0 rfl, HS.out.bl⟩
end
end Go.Proofs.Ythjnddkppodioaa
/- Sets of fibers as numbers: the reference's l6Mask, walked. Conditions: the numbers are below 20. -/
namespace Go.Proofs.Ythjnddkppodioaa
open Go.RowKit
/-- The set as a number. -/
def maskTo (l : List Int) : Nat → Nat
  | 0 => 0
  | k + 1 => maskTo l k ||| 2 ^ (l.getD k 0).toNat
def maskN (l : List Int) : Nat := maskTo l l.length
theorem maskTo_bit {l : List Int} (h : ∀ x ∈ l, 0 ≤ x) (i : Nat) : ∀ k, k ≤ l.length → (maskTo l k).testBit i = decide ((i : Int) ∈ l.take k) := by
  intro k
  induction k with
  | zero => intro _; simp [maskTo]
  | succ k ih =>
    intro hk
    have hkl : k < l.length := by omega
    have e : l.take (k + 1) = l.take k ++ [l[k]] := by rw [List.take_add_one, List.getElem?_eq_getElem hkl]; rfl
    have hx := h _ (List.getElem_mem hkl)
    show (maskTo l k ||| 2 ^ (l.getD k 0).toNat).testBit i = _
    rw [Nat.testBit_or, ih (by omega), Nat.testBit_two_pow, e, getD_of (List.getElem?_eq_getElem hkl)]
    rw [Bool.eq_iff_iff, Bool.or_eq_true, decide_eq_true_eq, decide_eq_true_eq, decide_eq_true_eq, List.mem_append, List.mem_singleton]
    constructor
    · intro h1
      rcases h1 with h1 | h1
      · exact Or.inl h1
      · exact Or.inr (by omega)
    · intro h1
      rcases h1 with h1 | h1
      · exact Or.inl h1
      · exact Or.inr (by omega)
theorem maskN_bit {l : List Int} (h : ∀ x ∈ l, 0 ≤ x) (i : Nat) : (maskN l).testBit i = hasB l (i : Int) := by
  unfold maskN
  rw [maskTo_bit h i _ (Nat.le_refl _), List.take_length, Bool.eq_iff_iff, hasB_iff]
  simp
theorem maskTo_lt {l : List Int} (h : ∀ x ∈ l, 0 ≤ x ∧ x < 20) : ∀ k, k ≤ l.length → maskTo l k < 2 ^ 20 := by
  intro k
  induction k with
  | zero => intro _; simp [maskTo]
  | succ k ih =>
    intro hk
    have hkl : k < l.length := by omega
    have hx := h _ (List.getElem_mem hkl)
    refine Nat.or_lt_two_pow (ih (by omega)) ?_
    rw [getD_of (List.getElem?_eq_getElem hkl)]
    exact Nat.pow_lt_pow_right (by decide) (by omega)
theorem ofInt_small {a : Nat} (h : a < 2 ^ 62) : (BitVec.ofInt 64 (a : Int)).toNat = a := by
  rw [BitVec.ofInt_natCast, BitVec.toNat_ofNat]; exact Nat.mod_eq_of_lt (by omega)
theorem wrap_small {a : Nat} (h : a < 2 ^ 62) : IntKind.i64.wrap (a : Int) = (a : Int) := IntWalk.i64_in _ (by omega)
/-- One bit more. -/
theorem bits_or_n {M N : Nat} (hM : M < 2 ^ 20) (hN : N < 2 ^ 20) : Go.bits .or .i64 (M : Int) (N : Int) = ((M ||| N : Nat) : Int) := by
  have h3 : M ||| N < 2 ^ 20 := Nat.or_lt_two_pow hM hN
  show IntKind.i64.wrap ((BitVec.ofInt 64 (M : Int) ||| BitVec.ofInt 64 (N : Int)).toNat : Int) = _
  rw [BitVec.toNat_or, ofInt_small (by omega), ofInt_small (by omega)]
  exact wrap_small (by omega)
/-- Is bit i set? -/
theorem bits_and_one {M : Nat} (hM : M < 2 ^ 20) (i : Nat) : Go.bits .and .i64 ((M / 2 ^ i : Nat) : Int) 1 = if M.testBit i then 1 else 0 := by
  have h2 : M / 2 ^ i ≤ M := Nat.div_le_self _ _
  have h3 : (M / 2 ^ i) &&& 1 = (M.testBit i).toNat := by
    rw [Nat.testBit_eq_decide_div_mod_eq, Nat.and_one_is_mod]
    have : M / 2 ^ i % 2 = 0 ∨ M / 2 ^ i % 2 = 1 := by omega
    rcases this with h | h <;> simp [h]
  show IntKind.i64.wrap ((BitVec.ofInt 64 ((M / 2 ^ i : Nat) : Int) &&& BitVec.ofInt 64 ((1 : Nat) : Int)).toNat : Int) = _
  rw [BitVec.toNat_and, ofInt_small (by omega), ofInt_small (by omega), h3]
  cases M.testBit i <;> rfl
set_option maxHeartbeats 1000000 in
set_option maxRecDepth 100000 in
theorem mask_any {B c : Nat} {A : Option Addr} {l : List Int} (w : World) (hA : Sees elInt w B A l.length l) (hl : ∀ x ∈ l, 0 ≤ x ∧ x < 20) (hn : l.length ≤ 1048576) :
    Calls Try.prog 73 #[.slice A l.length c] w fun e w' => e = .returned (.int .i64 ((maskN l : Nat) : Int)) ∧ w = w' := by
  have HL := hid hl
  have HB := hid (maskTo_lt hl)
  clear hl
  go_enter Try.func73, Try.ntmps73
  go_wp2
  go_loop [3, 4] (fun t i => ∃ (k M : Nat), k ≤ l.length ∧ i = .int .i64 k ∧ t = .int .i64 (M : Int) ∧ Hid (M = maskTo l k)) (fun _ i => l.length - (intOf i).toNat)
  case atStart => exact ⟨0, 0, Nat.zero_le _, rfl, rfl, rfl⟩
  case round =>
    obtain ⟨k, M, hk, rfl, rfl, hM⟩ := hrel
    by_cases hlt : k < l.length
    · obtain ⟨b, o, rfl, _, hc⟩ := hA.at_ hlt
      obtain ⟨x, hxk⟩ := get_of (k := k) rfl hlt
      have hx := HL.out x (List.mem_of_getElem? hxk)
      obtain ⟨j, rfl⟩ : ∃ j : Nat, x = (j : Int) := ⟨x.toNat, by omega⟩
      have e0 := hc k _ hxk 0 _ rfl
      simp only [elInt, Nat.mul_one, Nat.add_zero] at e0
      have hMb : M < 2 ^ 20 := by rw [hM.out]; exact HB.out k (by omega)
      have hj : (2 : Nat) ^ j < 2 ^ 20 := Nat.pow_lt_pow_right (by decide) (by omega)
      have HN : Hid (maskTo l (k + 1) = M ||| 2 ^ j) := by
        show maskTo l k ||| 2 ^ (l.getD k 0).toNat = _
        rw [getD_of hxk, ← hM.out]; simp
      have HO := hid (bits_or_n hMb hj)
      clear hc hxk hM
      have hw : wrap64 ((2 : Int) ^ j) = ((2 ^ j : Nat) : Int) := by
        have e : ((2 : Int) ^ j) = ((2 ^ j : Nat) : Int) := by simp
        rw [e]
        have h62 : 2 ^ j < 4611686018427387904 := Nat.lt_trans hj (by decide)
        generalize 2 ^ j = y at *
        exact IntWalk.wrap64_in _ (by omega)
      have HW := hid hw
      clear hw
      go_wp2
      exact ⟨⟨k + 1, M ||| 2 ^ j, by omega, by go_num, by rw [HW.out, HO.out], HN.out.symm⟩, by simp [intOf]; omega⟩
    · have hkl : k = l.length := by omega
      have HE : Hid (maskN l = M) := by rw [hM.out, hkl]; rfl
      clear hkl hM
      go_wp2
      go_ret
      exact ⟨by rw [HE.out]; rfl, rfl⟩
end Go.Proofs.Ythjnddkppodioaa
