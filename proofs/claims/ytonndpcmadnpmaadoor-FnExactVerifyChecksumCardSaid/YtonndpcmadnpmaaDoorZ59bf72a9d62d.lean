/- Lemmas and walks that the claim rests on, laid together. Conditions: none. -/
import Derived.Test.YtonndpcmadnpmaaDoorZf6a27b899121
import Derived.Deep.Upon
import Derived.Deep.AppendLies
import Derived.Test.YtonndpcmadnpmaaDoorRows
/- The ledger in a function's own walk: appends, stores, new rows. Conditions: at most 1099511627776 elements. -/
namespace Go.Proofs.YtonndpcmadnpmaaDoor
open Go.RowKit
section
variable {w0 w w' : World} {L : List Thing}
/-- One thing grows: into its own blocks or into new ones. -/
theorem Led.regrow (h : Led w0 w L) (i : Nat) {t t' : Thing} (hi : L[i]? = some t) (ht : Touch t.S w w') (hS : ∀ b, t'.S b → t.S b ∨ w.heap.size ≤ b) (his : t'.is w') : Led w0 w' (L.set i t') := by
  refine ⟨h.bl.trans (ht.below (B := w0.heap.size) (h.all i t hi).2 h.bl.size), fun j u hu => ?_, fun j k a b hjk ha hb x h1 h2 => ?_⟩
  · rw [List.getElem?_set] at hu
    by_cases hij : i = j
    · subst hij
      rw [if_pos rfl] at hu
      split at hu
      · injection hu with hu; subst hu
        refine ⟨his, fun b hb => ?_⟩
        rcases hS b hb with h1 | h1
        · exact (h.all i t hi).2 b h1
        · exact Nat.le_trans h.bl.size h1
      · cases hu
    · rw [if_neg hij] at hu
      exact ⟨u.st w w' (h.all j u hu).1 ht.size (fun b hb => ht.block b (u.lies w (h.all j u hu).1 b hb) (h.apart j i u t (by omega) hu hi b hb)), (h.all j u hu).2⟩
  · have key : ∀ (j : Nat) a, (L.set i t')[j]? = some a → (j = i ∧ a = t') ∨ (j ≠ i ∧ L[j]? = some a) := by
      intro j a ha
      rw [List.getElem?_set] at ha
      by_cases hij : i = j
      · subst hij
        rw [if_pos rfl] at ha
        split at ha
        · injection ha with ha; exact .inl ⟨rfl, ha.symm⟩
        · cases ha
      · rw [if_neg hij] at ha; exact .inr ⟨fun e => hij e.symm, ha⟩
    rcases key j a ha with ⟨rfl, rfl⟩ | ⟨hji, ha'⟩
    · rcases key k b hb with ⟨rfl, rfl⟩ | ⟨hki, hb'⟩
      · exact hjk rfl
      · rcases hS x h1 with h3 | h3
        · exact h.apart j k t b hjk hi hb' x h3 h2
        · have := b.lies w (h.all k b hb').1 x h2; omega
    · rcases key k b hb with ⟨rfl, rfl⟩ | ⟨hki, hb'⟩
      · rcases hS x h2 with h3 | h3
        · exact h.apart j k a t hjk ha' hi x h1 h3
        · have := a.lies w (h.all j a ha').1 x h1; omega
      · exact h.apart j k a b hjk ha' hb' x h1 h2
/-- A store into a block of the ledger. -/
theorem Led.set (h : Led w0 w L) (i : Nat) {g : Nat} {e : TypeId} {l : List Value} (hi : L[i]? = some (tBlk g e l.toArray)) (j : Nat) (u : Value) : Led w0 (w.setCell ⟨g, j, none⟩ u) (L.set i (tBlk g e (l.set j u).toArray)) :=
  h.touch i hi rfl (Touch.set (S := fun b => b = g) w (p := ⟨g, j, none⟩) rfl u) (by
    have hb : Blk w g e l.toArray := h.get i hi
    have := hb.set j u
    have e1 : l.toArray.setIfInBounds j u = (l.set j u).toArray := by simp
    rw [e1] at this
    exact this)
/-- A row made by a call. -/
theorem Led.owns_ {α : Type} {E : El α} {e : TypeId} {v : Value} {xs : List α} {base b0 : Nat} (h : Led w0 w L) (hb : Below w.heap.size w w') (ho : Owns E w' base e v xs) (hB : w.heap.size ≤ base) (h0 : b0 ≤ base) : Led w0 w' (tOwns E b0 e v xs :: L) :=
  h.put hb (tOwns E b0 e v xs) (fun b e => Nat.le_trans hB (ho.lies b e).1) (ho.base h0)
/-- A row of no elements, in a block of its own. -/
theorem Led.empty {α : Type} (h : Led w0 w L) (E : El α) (e : TypeId) (g : Nat) (hg : g = w.heap.size) (b0 : Nat) (h0 : b0 ≤ g) : Led w0 (w.alloc (.cells #[] e)) (tOwns E b0 e (.slice (some ⟨g, 0, none⟩) 0 0) [] :: L) := by
  subst hg
  exact h.owns_ (bl_alloc (Below.refl _ _) _) (Owns.of_blk (n := 0) (cap := 0) (cur := #[]) (Blk.new w e #[]) (Nat.le_refl _) rfl (Nat.le_refl _) (by simp) (by decide) (Filled.zero _ _ _)) (Nat.le_refl _) h0
theorem filled_single {α : Type} (E : El α) (x : α) : Filled E (E.cells x).toArray [x] 1 := by
  intro j y hj hy i u hu
  obtain rfl : j = 0 := by omega
  simp at hy; subst hy
  simpa using hu
/-- A row of one element, in a block of its own. -/
theorem Led.single {α : Type} (h : Led w0 w L) (E : El α) (x : α) (e : TypeId) (g : Nat) (hg : g = w.heap.size) (b0 : Nat) (h0 : b0 ≤ g) : Led w0 (w.alloc (.cells (E.cells x).toArray e)) (tOwns E b0 e (.slice (some ⟨g, 0, none⟩) 1 1) [x] :: L) := by
  subst hg
  exact h.owns_ (bl_alloc (Below.refl _ _) _) (Owns.of_blk (n := 1) (cap := 1) (cur := (E.cells x).toArray) (Blk.new w e _) (Nat.le_refl _) rfl (Nat.le_refl _) (by simp [E.len]) (by decide) (filled_single E x)) (Nat.le_refl _) h0
/-- The nil slice. -/
theorem Led.nilS {α : Type} (h : Led w0 w L) (E : El α) (e : TypeId) (b0 : Nat) : Led w0 w (tOwns E b0 e (.slice none 0 0) [] :: L) :=
  h.put (Below.refl _ _) (tOwns E b0 e (.slice none 0 0) []) (fun b e => by cases e) (World.ownsRow_nil _ _ _ _)
theorem Led.sees {α : Type} {E : El α} (h : Led w0 w L) (i : Nat) {base c n : Nat} {e : TypeId} {A : Option Addr} {xs : List α} (hi : L[i]? = some (tOwns E base e (.slice A n c) xs)) (hn : n = xs.length) : Sees E w w.heap.size A n xs := by
  subst hn
  exact Owns.sees (show Owns E w base e (.slice A xs.length c) xs from h.get i hi)
theorem Led.form {α : Type} {E : El α} (h : Led w0 w L) (i : Nat) {base : Nat} {e : TypeId} {v : Value} {xs : List α} (hi : L[i]? = some (tOwns E base e v xs)) : ∃ A c, v = .slice A xs.length c ∧ xs.length ≤ c := by
  obtain ⟨A, c, h1, h2, _⟩ := Owns.form (show Owns E w base e v xs from h.get i hi)
  exact ⟨A, c, h1, h2⟩
theorem Led.own {α : Type} {E : El α} (h : Led w0 w L) (i : Nat) {base : Nat} {e : TypeId} {v : Value} {xs : List α} (hi : L[i]? = some (tOwns E base e v xs)) : Owns E w base e v xs := h.get i hi
end
/-- A new block shows its one element. -/
theorem sees_new {α : Type} (E : El α) (w : World) (x : α) (e : TypeId) (g : Nat) (hg : g = w.heap.size) : Sees E (w.alloc (.cells (E.cells x).toArray e)) (w.heap.size + 1) (some ⟨g, 0, none⟩) 1 [x] := by
  subst hg
  refine ⟨rfl, .inr ⟨w.heap.size, 0, rfl, Nat.lt_succ_self _, fun k y hy j u hu => ?_⟩⟩
  have hb : Blk (w.alloc (.cells (E.cells x).toArray e)) w.heap.size e (E.cells x).toArray := Blk.new _ _ _
  have hk : k = 0 := by have := (List.getElem?_eq_some_iff.1 hy).1; simp at this; omega
  subst hk
  simp at hy; subst hy
  rw [hb.cell]; simpa using hu
section
variable {P : Program}
/-- append onto a row of the call's own, of whatever is seen. -/
theorem run_append_all {α : Type} {E : El α} {w : World} {base : Nat} {e t ty : TypeId} {v : Value} {xs ys : List α} {A : Option Addr} {n c B : Nat} {i : TypeInfo} {z : Value} (ht : P.underlying t = some (.slice e)) (hi : P.info? e = some i) (hz0 : i.zero = some z) (hz1 : i.size = E.sz)
    (hzs : z.cells.size = E.sz) (ho : Owns E w base e v xs) (hy : Sees E w B A n ys) (h63 : xs.length + n ≤ 1099511627776) (hby : i.bytes ≤ 64) (hbase : base ≤ w.heap.size) :
    ∃ A' c' w', (Builtin.append_ #[t, t] ty #[v, .slice A n c]).run P w = .ok (.slice A' (xs.length + n) c') w' ∧ Owns E w' base e (.slice A' (xs.length + n) c') (xs ++ ys) ∧ w.grownBy w' v.ownBlock ∧
      ∀ g, (Value.slice A' (xs.length + n) c').ownBlock = some g → v.ownBlock = some g ∨ g = w.heap.size := by
  have hyl := hy.len
  rcases A with _ | ad
  · have hn : n = 0 := by
      rcases hy.2 with h | ⟨b, o, h, _⟩
      · exact h
      · cases h
    subst hn
    have hys : ys = [] := List.eq_nil_of_length_eq_zero hyl
    subst hys
    obtain ⟨A1, c1, rfl, hc1, _, _⟩ := ho.form
    refine ⟨A1, c1, w, ?_, by simpa using ho, ⟨rfl, rfl, rfl, Nat.le_refl _, fun _ _ _ => rfl⟩, fun g hg => .inl hg⟩
    have h1 := run_append_nothing (P := P) w t t ty e i ht hi A1 xs.length c1 hc1 (.slice none 0 c) (Src.ofNil w ht c)
    simpa using h1
  · have hcells : ∀ j u, (ys.flatMap E.cells)[j]? = some u → w.cell? (ad.add j) = some u := by
      intro j u hj
      rcases hy.2 with h | ⟨b, o, h, _, hc⟩
      · subst h
        rw [List.eq_nil_of_length_eq_zero hyl] at hj; simp at hj
      · injection h with h; subst h
        have hpos := E.pos
        have hjl : j < ys.length * E.sz := by rw [← flat_len]; exact (List.getElem?_eq_some_iff.1 hj).1
        have hk : j / E.sz < ys.length := (Nat.div_lt_iff_lt_mul hpos).2 hjl
        obtain ⟨y, hyk⟩ : ∃ y, ys[j / E.sz]? = some y := ⟨ys[j / E.sz], List.getElem?_eq_getElem hk⟩
        have hm : j % E.sz < (E.cells y).length := by rw [E.len]; exact Nat.mod_lt _ hpos
        have h1 := hc (j / E.sz) y hyk (j % E.sz) _ (List.getElem?_eq_getElem hm)
        have h2 := flat_get E ys (j / E.sz) y hyk (j % E.sz) _ (List.getElem?_eq_getElem hm)
        have e1 : j / E.sz * E.sz + j % E.sz = j := by rw [Nat.mul_comm]; exact Nat.div_add_mod j E.sz
        rw [e1] at h2
        rw [hj] at h2
        injection h2 with h2
        rw [← h2] at h1
        have e2 : o + j / E.sz * E.sz + j % E.sz = o + j := by omega
        rw [e2] at h1
        rw [← h1]
        unfold Addr.add
        split
        · rename_i h0; rw [h0, Nat.add_zero]
        · rfl
    have h1c : ∀ u ∈ ys.flatMap E.cells, u.oneCell' = true := fun u hu => by
      obtain ⟨y, _, h2⟩ := List.mem_flatMap.1 hu
      exact E.one y u h2
    obtain ⟨v', w', hr, h2, h3, _, h5⟩ := run_append_own_at (P := P) w base t ty e i z E.sz i.bytes ht hi hz0 hz1 rfl hzs E.pos v xs.length (xs.flatMap E.cells) ho ad n c (ys.flatMap E.cells) (by rw [flat_len, hyl]) hcells h1c (by unfold maxLen; omega)
      (by have : (xs.length + n) * i.bytes ≤ 1099511627776 * 64 := Nat.mul_le_mul h63 hby; omega) hbase
    have ho' : Owns E w' base e v' (xs ++ ys) := by
      unfold Owns
      rw [List.length_append, hyl, List.flatMap_append]
      exact h2
    obtain ⟨A', c', hv, _⟩ := ho'.form
    rw [List.length_append, hyl] at hv
    subst hv
    refine ⟨A', c', w', hr, ho', h3, fun g hg => ?_⟩
    rcases h5 with h5 | h5
    · exact .inl (by rw [← h5]; exact hg)
    · exact .inr (by rw [h5] at hg; injection hg with hg; exact hg.symm)
variable {w0 w : World} {L : List Thing} {ops : Array Oper} {rest : List Oper} {o : Oper} {a : Act} {Q : Exit → Act → World → Prop}
theorem wp_append_led {α : Type} {E : El α} {K : Act → World → Prop} (s x : Operand) (t : TypeId) (ho : o.op = .call { callee := .builtin .append, args := #[s, x], argTypes := #[t, t] }) (hS : Led w0 w L) (j : Nat) {base : Nat} {e : TypeId} {v : Value} {xs ys : List α}
    (hj : L[j]? = some (tOwns E base e v xs)) {A : Option Addr} {n c B : Nat} {i : TypeInfo} {z : Value} (ht : P.underlying t = some (.slice e)) (hi : P.info? e = some i) (hz0 : i.zero = some z) (hz1 : i.size = E.sz) (hby : i.bytes ≤ 64) (hzs : z.cells.size = E.sz)
    (hs : a.eval s = v) (hx : a.eval x = .slice A n c) (hy : Sees E w B A n ys) (h63 : xs.length + n ≤ 1099511627776) (hbase : base ≤ w.heap.size)
    (h : ∀ A' c' w', Led w0 w' (L.set j (tOwns E base e (.slice A' (xs.length + n) c') (xs ++ ys))) → K (a.put o.dst (.slice A' (xs.length + n) c')) w') : o.wp P a w K Q := by
  obtain ⟨A', c', w', hr, h2, h3, h4⟩ := run_append_all (P := P) (ty := o.type) (c := c) ht hi hz0 hz1 hzs (hS.own j hj) hy h63 hby hbase
  unfold Oper.wp execOp
  simp only [ho, resolve, invoke, builtin, Sem.run_bind, Sem.run_pure, Result.andThen_ok, List.map_toArray, List.map_cons, List.map_nil, hs, hx, hr]
  refine h A' c' w' (hS.regrow j hj ⟨h3.os, h3.tape, h3.output, h3.size, fun k hk hn => h3.block k hk (fun e => hn e.symm)⟩ (fun b hb => ?_) h2)
  rcases h4 b hb with h5 | h5
  · exact .inl h5
  · exact .inr (by omega)
theorem wpList_append_led {α : Type} {E : El α} (hgd : o.guard = none) (s x : Operand) (t : TypeId) (ho : o.op = .call { callee := .builtin .append, args := #[s, x], argTypes := #[t, t] }) (hS : Led w0 w L) (j : Nat) {base : Nat} {e : TypeId} {v : Value} {xs ys : List α}
    (hj : L[j]? = some (tOwns E base e v xs)) {A : Option Addr} {n c B : Nat} {i : TypeInfo} {z : Value} (ht : P.underlying t = some (.slice e)) (hi : P.info? e = some i) (hz0 : i.zero = some z) (hz1 : i.size = E.sz) (hby : i.bytes ≤ 64) (hzs : z.cells.size = E.sz)
    (hs : a.eval s = v) (hx : a.eval x = .slice A n c) (hy : Sees E w B A n ys) (h63 : xs.length + n ≤ 1099511627776) (hbase : base ≤ w.heap.size)
    (h : ∀ A' c' w', Led w0 w' (L.set j (tOwns E base e (.slice A' (xs.length + n) c') (xs ++ ys))) → wpList P ops Q rest (a.put o.dst (.slice A' (xs.length + n) c')) w') : wpList P ops Q (o :: rest) a w :=
  wpList_plain hgd fun _ hK => wp_append_led s x t ho hS j hj ht hi hz0 hz1 hby hzs hs hx hy h63 hbase fun A' c' w' h2 => hK _ _ (h A' c' w' h2)
theorem step_append_led {α : Type} {E : El α} {K : Act → World → Prop} {F : Prop} (hgd : o.guard = none) (s x : Operand) (t : TypeId) (ho : o.op = .call { callee := .builtin .append, args := #[s, x], argTypes := #[t, t] }) (hS : Led w0 w L) (j : Nat) {base : Nat} {e : TypeId} {v : Value} {xs ys : List α}
    (hj : L[j]? = some (tOwns E base e v xs)) {A : Option Addr} {n c B : Nat} {i : TypeInfo} {z : Value} (ht : P.underlying t = some (.slice e)) (hi : P.info? e = some i) (hz0 : i.zero = some z) (hz1 : i.size = E.sz) (hby : i.bytes ≤ 64) (hzs : z.cells.size = E.sz)
    (hs : a.eval s = v) (hx : a.eval x = .slice A n c) (hy : Sees E w B A n ys) (h63 : xs.length + n ≤ 1099511627776) (hbase : base ≤ w.heap.size)
    (h : ∀ A' c' w', Led w0 w' (L.set j (tOwns E base e (.slice A' (xs.length + n) c') (xs ++ ys))) → K (a.put o.dst (.slice A' (xs.length + n) c')) w') : if Region.wanted o (yielded ops a.tmps) = true then Oper.wp P o a w K Q else F := by
  have hw : Region.wanted o (yielded ops a.tmps) = true := by simp [Region.wanted, hgd]
  rw [if_pos hw]
  exact wp_append_led s x t ho hS j hj ht hi hz0 hz1 hby hzs hs hx hy h63 hbase h
end
end Go.Proofs.YtonndpcmadnpmaaDoor
/- SplitString of both sides, walked. Conditions: the string has at most 1048576 bytes. -/
namespace Go.Proofs.YtonndpcmadnpmaaDoor
open Go.RowKit
set_option maxHeartbeats 2000000 in
set_option maxRecDepth 100000 in
theorem l1Split_any (s : ByteArray) (b : Int) (w : World) (hs : s.size ≤ 1048576) :
    Calls Tryd.prog 29 #[.string s, .int .u8 b] w fun e w' => ∃ v, e = .returned v ∧ Owns elStr w' w.heap.size 9 v (splA s b) ∧ Below w.heap.size w w' := by
  have hS := (Led.nil w).empty elStr 9 w.heap.size rfl w.heap.size (Nat.le_refl _)
  obtain ⟨i0, hi, hz0, hz1, hz2⟩ := info_parts str_info
  have HS : Hid (Led w (w.alloc (.cells #[] 9)) [tOwns elStr w.heap.size 9 (.slice (some ⟨w.heap.size, 0, none⟩) 0 0) (splT s b 0).1]) := hS
  have HA : Hid (splA s b = (splT s b s.size).1 ++ [s.extract (splT s b s.size).2 s.size]) := rfl
  clear hS
  go_enter Tryd.func29, Tryd.ntmps29
  go_wp2_with fail
  go_loopw [5, 6, 7] (fun v f i wr => ∃ k m : Nat, k ≤ s.size ∧ m ≤ k ∧ i = .int .i64 k ∧ f = .int .i64 m ∧ Hid (m = (splT s b k).2) ∧ Hid (Led w wr [tOwns elStr w.heap.size 9 v (splT s b k).1])) (fun _ _ i _ => s.size - (intOf i).toNat)
  case atStart => exact ⟨0, 0, Nat.zero_le _, Nat.le_refl _, rfl, rfl, rfl, HS⟩
  case round =>
    clear HS
    obtain ⟨k, m, hk, hm, rfl, rfl, HM, HS⟩ := hrel
    have hbd := splT_bd (s := s) (b := b) k
    obtain ⟨A3, c3, rfl, _⟩ := HS.out.form 0 rfl
    by_cases hlt : k < s.size
    · by_cases hb : (s[k].toNat : Int) = b
      · have HN : Hid (splT s b (k + 1) = ((splT s b k).1 ++ [s.extract m k], k + 1)) := by have := splT_yes hlt hb; rw [← HM.out] at this; exact this
        have hb2 : ((s[k].toNat : Int) == b) = true := by rw [hb]; exact beq_self_eq_true b
        have HS2 := hid (HS.out.blk_ wr.heap.size rfl 9 #[.string (s.extract m k)])
        clear hb HM
        go_wp2_with (first
          | (at_builtin; refine wpList_append_led rfl _ _ 40 rfl HS2.out 1 rfl Tryd.underlying40 hi hz0 hz1 (by rw [hz2]; decide) rfl rfl rfl (show Sees elStr _ _ _ 1 [s.extract m k] from sees_new elStr _ _ _ _ rfl) (by omega) HS2.out.bl.size ?_)
          | go_in)
        intro A2 c2 w7 hS5
        have hS6 := hid (hS5.drop 1)
        have HM2 : Hid (k + 1 = (splT s b (k + 1)).2) := by rw [HN.out]; rfl
        clear HS2 hS5
        go_wp2
        go_roundw
        case rel => exact ⟨k + 1, k + 1, by omega, Nat.le_refl _, by go_num, by go_num, HM2, by rw [HN.out]; exact hS6⟩
        case measure => simp [intOf]; omega
      · have HN : Hid (splT s b (k + 1) = splT s b k) := splT_no hlt hb
        have hb2 : ((s[k].toNat : Int) == b) = false := by rw [beq_eq_false_iff_ne]; exact hb
        clear hb
        go_wp2
        go_roundw
        case rel => exact ⟨k + 1, m, by omega, by omega, by go_num, rfl, by rw [HN.out]; exact HM, by rw [HN.out]; exact HS⟩
        case measure => simp [intOf]; omega
    · have hkm : k = s.size := by omega
      subst hkm
      have HS2 := hid (HS.out.blk_ wr.heap.size rfl 9 #[.string (s.extract m s.size)])
      go_wp2_with (first
        | (at_builtin; refine wpList_append_led rfl _ _ 40 rfl HS2.out 1 rfl Tryd.underlying40 hi hz0 hz1 (by rw [hz2]; decide) rfl rfl rfl (show Sees elStr _ _ _ 1 [s.extract m s.size] from sees_new elStr _ _ _ _ rfl) (by omega) HS2.out.bl.size ?_)
        | go_in)
      intro A2 c2 w7 hS5
      have hS6 := hid (hS5.drop 1)
      clear HS2 hS5
      go_wp2
      go_ret
      refine ⟨_, rfl, ?_, hS6.out.bl⟩
      rw [HA.out, ← HM.out]
      exact hS6.out.own 0 rfl
/-- The byte of a separator. -/
def sepB (sep : ByteArray) : Int := if h : 0 < sep.size then (sep[0].toNat : Int) else 0
def splOk (s sep : ByteArray) : Bool := decide (s.size ≤ 4000) && decide (sep.size = 1)
def splR (s sep : ByteArray) : List ByteArray := if splOk s sep then splA s (sepB sep) else []
end Go.Proofs.YtonndpcmadnpmaaDoor
/- How an argument that can be read is opened: strings, slices, networks, routes. Conditions: none. -/
namespace Go.Proofs.YtonndpcmadnpmaaDoor
open Go.ChangeShapes Go.WideShapes Go.ChangeAt Go.RowKit Go.Deep
theorem i64_bd {n : Int} (h : (Lit.int .i64 n).wf = true) : -9223372036854775808 ≤ n ∧ n ≤ 9223372036854775807 := by
  simp [Lit.wf, IntKind.min, IntKind.max, IntKind.signed, IntKind.bits] at h; omega
section
variable {H : Type} {enc : TypeId × Value → H} {P : Program} {W : World} {spare : Nat → Bool} {held : Bool}
/-- A slice whose elements' cells are known. -/
theorem open_sl {α : Type} (E : El α) {t e : TypeId} {fuel : Nat} {cs : List Value} {x : DataW H × List MemPlace} (good : α → Prop) (ht : P.underlying t = some (.slice e)) (hsz : P.cellsOf e = E.sz)
    (hel : ∀ fuel cs y, DataW.trod enc P W 0 spare held fuel e cs = some y → ∃ a, cs = E.cells a ∧ good a)
    (h : DataW.trod enc P W 0 spare held fuel t cs = some x) :
    ∃ A n c xs, cs = [.slice A n c] ∧ n ≤ c ∧ c ≤ maxLen ∧ Sees E W W.heap.size A n xs ∧ ∀ a ∈ xs, good a := by
  rcases open_slice ht h with ⟨h0, _⟩ | ⟨a, len, cap, m, k, D, Pl, hcs, _, hl, hm, hmm, _, hi⟩
  · exact ⟨none, 0, 0, [], h0, Nat.le_refl _, Nat.zero_le _, Sees.nil _ _ _ _, fun _ h => by cases h⟩
  · have hlm : len ≤ m := by rw [hmm]; split <;> omega
    have key : ∀ i : Nat, i < len → ∃ y : α, good y ∧ ∀ j u, (E.cells y)[j]? = some u → W.cell? (a.add (i * E.sz + j)) = some u := by
      intro i hlt
      obtain ⟨cs', hc, htr⟩ := hi i (by omega)
      obtain ⟨y, rfl, hg⟩ := hel _ _ _ htr
      obtain ⟨_, hlen, hat⟩ := World.cells?_some hc
      refine ⟨y, hg, fun j u hu => ?_⟩
      have hj : j < P.cellsOf e := by rw [hsz, ← E.len y]; exact (List.getElem?_eq_some_iff.1 hu).1
      have := hat j hj
      rw [add_add, hsz] at this
      rw [this, hu]
    rcases Nat.eq_zero_or_pos len with h0 | h0
    · subst h0
      exact ⟨some a, 0, cap, [], hcs, hl, hm, Sees.nil _ _ _ _, fun _ h => by cases h⟩
    · have hspot : a.spot = none := by
        obtain ⟨y, _, hy⟩ := key 0 h0
        have hpos := E.pos
        have hlen := E.len y
        have h1 := hy 0 ((E.cells y)[0]'(by omega)) (List.getElem?_eq_getElem (by omega))
        simp only [Nat.zero_mul, Nat.zero_add] at h1
        rw [show a.add 0 = a by simp [Addr.add]] at h1
        unfold World.cell? at h1
        split at h1
        · split at h1
          · cases h1
          · rename_i hs; simpa using hs
        · cases h1
      obtain ⟨y0, _, _⟩ := key 0 h0
      have : Inhabited α := ⟨y0⟩
      obtain ⟨f, hf⟩ := choose_lt key
      refine ⟨some a, len, cap, (List.range len).map f, hcs, hl, hm, ⟨by simp, .inr ⟨a.block, a.off, by cases a; simp_all, ?_, ?_⟩⟩, ?_⟩
      · obtain ⟨_, hy⟩ := hf 0 h0
        have hpos := E.pos
        have hlen := E.len (f 0)
        have h1 := hy 0 ((E.cells (f 0))[0]'(by omega)) (List.getElem?_eq_getElem (by omega))
        have := World.block_lt_of_cell? W _ h1
        simp only [Addr.add] at this
        split at this <;> simpa using this
      · intro k x hx j u hu
        have hk : k < len := by have := (List.getElem?_eq_some_iff.1 hx).1; simpa using this
        have hx' : f k = x := by simpa [List.getElem?_map, List.getElem?_range, hk] using hx
        have := (hf k hk).2 j u (by rw [hx']; exact hu)
        rw [← this]
        unfold Addr.add
        split
        · rename_i h00; rw [Nat.add_assoc, h00, Nat.add_zero]; cases a; simp_all
        · rw [Nat.add_assoc]
      · intro x hx
        obtain ⟨i, hi, rfl⟩ := List.mem_map.1 hx
        exact (hf i (by simpa using hi)).1
/-- A slice that came in. -/
def SlArg {α : Type} (E : El α) (W : World) (A : Option Addr) (n c : Nat) (xs : List α) (good : α → Prop) : Prop := n ≤ c ∧ c ≤ maxLen ∧ Sees E W W.heap.size A n xs ∧ ∀ a ∈ xs, good a
theorem open_sl_val {α : Type} (E : El α) {t e : TypeId} {base : Nat} {v : Value} {d : DataW H} {p : List MemPlace} (good : α → Prop) (ht : P.underlying t = some (.slice e)) (hsz : P.cellsOf e = E.sz)
    (hel : ∀ fuel cs y, DataW.trod enc P W 0 spare held fuel e cs = some y → ∃ a, cs = E.cells a ∧ good a)
    (hv : Value.okWide P W .any base t v) (h : DataW.Trod enc P W 0 spare held t v d p) : ∃ A n c xs, v = .slice A n c ∧ SlArg E W A n c xs good := by
  obtain ⟨a, len, cap, rfl⟩ := okWide_slice ht hv
  obtain ⟨fuel, h⟩ := h
  obtain ⟨A, n, c, xs, e, h1, h2, h3, h4⟩ := open_sl E good ht hsz hel h
  exact ⟨A, n, c, xs, by simpa [Value.cells] using e, h1, h2, h3, h4⟩
theorem el_int {e : TypeId} (he : P.underlying e = some (.int .i64)) (fuel : Nat) (cs : List Value) (y : DataW H × List MemPlace) (h : DataW.trod enc P W 0 spare held fuel e cs = some y) :
    ∃ a, cs = elInt.cells a ∧ (-9223372036854775808 ≤ a ∧ a ≤ 9223372036854775807) := by
  obtain ⟨n, rfl, _, hw⟩ := DataW.trod_int he h
  exact ⟨n, rfl, i64_bd hw⟩
theorem el_str {e : TypeId} (he : P.underlying e = some .string) (fuel : Nat) (cs : List Value) (y : DataW H × List MemPlace) (h : DataW.trod enc P W 0 spare held fuel e cs = some y) :
    ∃ a, cs = elStr.cells a ∧ a.size ≤ maxLen := by
  obtain ⟨n, rfl, _, hw⟩ := DataW.trod_string he h
  exact ⟨n, rfl, hw⟩
end
end Go.Proofs.YtonndpcmadnpmaaDoor
