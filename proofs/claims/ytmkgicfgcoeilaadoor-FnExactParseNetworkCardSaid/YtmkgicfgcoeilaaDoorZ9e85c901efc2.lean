/- Lemmas and walks that the claim rests on, laid together. Conditions: none. -/
import Derived.Test.YtmkgicfgcoeilaaDoorZb454307f9e42
import Derived.Test.YtmkgicfgcoeilaaDoorZ2b9016d1b45f
/- How the program reads a fiber's line, walked. Conditions: at most 4000 bytes; the library's tables read as they were laid. By rdn.py. -/
namespace Go.Proofs.YtmkgicfgcoeilaaDoor
open Go.RowKit
theorem splB_any (u : UInt8) (s : ByteArray) (w : World) (hm : Mx w) (hs : s.size ≤ 1048576) :
    Calls Tryd.prog 13 #[.string s, .string ⟨#[u]⟩] w fun e w' => ∃ A c, e = .returned (.slice A (splA s (u.toNat : Int)).length c) ∧ Owns elStr w' w.heap.size 9 (.slice A (splA s (u.toNat : Int)).length c) (splA s (u.toNat : Int)) ∧ Below w.heap.size w w' := by
  obtain ⟨m, hm0, hm1⟩ := hm
  have hu : 1 ≤ (⟨#[u]⟩ : ByteArray).size := Nat.le_refl 1
  refine (Tryd.strings_Split s ⟨#[u]⟩ m w (by omega) hm0 hu).mono ?_
  rintro e w' ⟨rfl, rfl⟩
  have h1 : Lib.splitB ⟨#[u]⟩ 0 (Lib.countB s ⟨#[u]⟩) s = splA s (u.toNat : Int) := splitB_splA (c := u) s
  have h2 := Lib.splitB_all ⟨#[u]⟩ hu 0 _ s rfl
  rw [h1] at h2
  have h3 := (splA_len (s := s) (b := (u.toNat : Int))).2
  rw [h1, ← h2]
  exact ⟨_, _, rfl, Owns.of_blk (n := (splA s (u.toNat : Int)).length) (cap := (splA s (u.toNat : Int)).length) (cur := ((splA s (u.toNat : Int)).map Value.string).toArray) (Blk.new w _ _) (Nat.le_refl _) rfl (Nat.le_refl _) (by simp [elStr]) (by unfold maxLen; omega) (filled_strs _), bl_alloc (Below.refl _ _) _⟩
theorem part_sizeU {u : UInt8} {s x : ByteArray} (hx : x ∈ splA s (u.toNat : Int)) : x.size ≤ s.size := by
  have h1 := (splA_join (s := s) (b := (u.toNat : Int)) u rfl).1
  have h2 := mem_join_len u (byts (splA s (u.toNat : Int))) x.data.toList (List.mem_map.2 ⟨x, hx, rfl⟩)
  rw [h1] at h2
  simpa using h2
/-- A name's index as the program tells it, and whether there is one. -/
def ixV (xs : List ByteArray) (x : ByteArray) : Int := if findI xs x = -1 then 0 else findI xs x
def ixK (xs : List ByteArray) (x : ByteArray) : Bool := !decide (findI xs x = -1)
theorem ix_yes {xs : List ByteArray} {x : ByteArray} (h : ixK xs x = true) : 0 ≤ findI xs x ∧ ixV xs x = findI xs x := by
  unfold ixK at h
  have h1 : ¬ findI xs x = -1 := by simpa using h
  have h2 := (findI_bd (l := xs) (x := x)).1
  exact ⟨by omega, if_neg h1⟩
theorem ix_no {xs : List ByteArray} {x : ByteArray} (h : ixK xs x = false) : ¬ 0 ≤ findI xs x := by
  unfold ixK at h
  have h1 : findI xs x = -1 := by simpa using h
  omega
section
variable {xs ws : List ByteArray} {x1 x2 x3 x5 : ByteArray}
theorem rdI_4 (hl : ws.length = 4) (h1 : ws[1]? = some x1) (h2 : ws[2]? = some x2) (h3 : ws[3]? = some x3) : rdI xs ws = if (ixK xs x1 && ixK xs x2) && rdK x3 then some ⟨ixV xs x1, ixV xs x2, rdV x3, 0⟩ else none := by
  unfold rdI
  rw [if_pos (Or.inl hl), getD_of h1, getD_of h2, getD_of h3]
  have h6 : ¬ ws.length = 6 := by omega
  cases k1 : ixK xs x1
  · rw [if_neg (fun h => ix_no k1 h.1)]; rfl
  · cases k2 : ixK xs x2
    · rw [if_neg (fun h => ix_no k2 h.2.1)]; rfl
    · cases k3 : rdK x3
      · rw [if_neg (fun h => by cases h.2.2.1)]; rfl
      · rw [if_pos ⟨(ix_yes k1).1, (ix_yes k2).1, rfl, fun h => absurd h h6⟩, if_neg h6, (ix_yes k1).2, (ix_yes k2).2]; rfl
theorem rdI_6 (hl : ws.length = 6) (h1 : ws[1]? = some x1) (h2 : ws[2]? = some x2) (h3 : ws[3]? = some x3) (h5 : ws[5]? = some x5) : rdI xs ws = if (ixK xs x1 && ixK xs x2) && (rdK x3 && rdK x5) then some ⟨ixV xs x1, ixV xs x2, rdV x3, rdV x5⟩ else none := by
  unfold rdI
  rw [if_pos (Or.inr hl), getD_of h1, getD_of h2, getD_of h3, getD_of h5]
  cases k1 : ixK xs x1
  · rw [if_neg (fun h => ix_no k1 h.1)]; rfl
  · cases k2 : ixK xs x2
    · rw [if_neg (fun h => ix_no k2 h.2.1)]; rfl
    · cases k3 : rdK x3
      · rw [if_neg (fun h => by cases h.2.2.1)]; rfl
      · cases k5 : rdK x5
        · rw [if_neg (fun h => by cases h.2.2.2 hl)]; rfl
        · rw [if_pos ⟨(ix_yes k1).1, (ix_yes k2).1, rfl, fun _ => rfl⟩, if_pos hl, (ix_yes k1).2, (ix_yes k2).2]; rfl
theorem rdI_no (h4 : ¬ ws.length = 4) (h6 : ¬ ws.length = 6) : rdI xs ws = none := by
  unfold rdI
  rw [if_neg (by rintro (h | h); exact h4 h; exact h6 h)]
end
section
variable {n c m d : Nat} {A A' : Option Addr} {xs : List ByteArray} {fs : List Fib}
set_option maxHeartbeats 4000000 in
set_option maxRecDepth 100000 in
theorem readFiber_any (s : ByteArray) (w : World) (h : NetIs w A n c A' m d xs fs) (ht : Tab w) (he : Sent w) (hm : Mx w) (hs : s.size ≤ 4000) :
    Calls Tryd.prog 14 #[.agg #[.slice A n c, .slice A' m d], .string s] w fun e w' => ∃ (f : Fib) (b : Bool), e = .returned (.tuple #[.agg #[.int .i64 f.a, .int .i64 f.b, .int .i64 f.len, .int .i64 f.risk], .bool b]) ∧ rdI xs (splA s 32) = (if b then some f else none) ∧ Below w.heap.size w w' := by
  have hS := ((Led.nil w).blk_ w.heap.size rfl 25 #[.slice A n c, .slice A' m d]).blk_ (w.heap.size + 1) (by simp) 39 #[.int .i64 0, .int .i64 0, .int .i64 0, .int .i64 0]
  obtain ⟨ws, hws⟩ : ∃ ws, splA s 32 = ws := ⟨_, rfl⟩
  obtain ⟨hl0, hl1⟩ := splA_len (s := s) (b := 32)
  have HPS : Hid (∀ x ∈ ws, x.size ≤ s.size) := by rw [← hws]; exact fun x hx => part_sizeU (u := 32) hx
  rw [hws] at hl0 hl1
  rw [hws]
  have HWS := hid hws
  have HN := hid h
  have HT := hid ht
  have HSE := hid he
  have HM := hid hm
  have hnl := h.nle
  clear hws h ht he hm
  go_enter Tryd.func14, Tryd.ntmps14
  go_wp2_with fail
  refine (splB_any 32 s _ (HM.out.on hS.bl) (by omega)).mono ?_
  rintro e w1 ⟨B1, c1, rfl, ho, hb⟩
  have HT32 : Hid ((UInt8.toNat 32 : Int) = 32) := hid rfl
  rw [HT32.out, HWS.out] at ho
  rw [HT32.out, HWS.out]
  by_cases hL4 : ws.length = 4
  · have HLE := hid hL4
    obtain ⟨x1, hx1⟩ := get_of (k := 1) (l := ws) rfl (by omega)
    obtain ⟨x2, hx2⟩ := get_of (k := 2) (l := ws) rfl (by omega)
    obtain ⟨x3, hx3⟩ := get_of (k := 3) (l := ws) rfl (by omega)
    have HX1 := hid hx1
    have HX2 := hid hx2
    have HX3 := hid hx3
    have hz1 := HPS.out x1 (List.mem_of_getElem? hx1)
    have hz2 := HPS.out x2 (List.mem_of_getElem? hx2)
    have hz3 := HPS.out x3 (List.mem_of_getElem? hx3)
    have HR : Hid (rdI xs ws = _) := rdI_4 hL4 hx1 hx2 hx3
    rw [hL4] at ho
    rw [hL4]
    have hsee : Sees elStr w1 w1.heap.size B1 4 ws := by have := ho.sees; rw [hL4] at this; exact this
    obtain ⟨b1, o1, rfl, _, hc1⟩ := hsee.at_ (k := 0) (by decide)
    replace hS := hS.owns_ (b0 := w.heap.size) hb ho (Nat.le_refl _) (by simp; omega)
    have f1 := hc1 1 x1 hx1 0 _ rfl
    have f2 := hc1 2 x2 hx2 0 _ rfl
    have f3 := hc1 3 x3 hx3 0 _ rfl
    simp only [elStr, Nat.mul_one, Nat.add_zero] at f1 f2 f3
    have q0 := hS.cell 2 0 rfl rfl
    obtain ⟨v1, hv1⟩ : ∃ v, v = ixV xs x1 := ⟨_, rfl⟩
    obtain ⟨k1, hk1⟩ : ∃ v, v = ixK xs x1 := ⟨_, rfl⟩
    obtain ⟨v2, hv2⟩ : ∃ v, v = ixV xs x2 := ⟨_, rfl⟩
    obtain ⟨k2, hk2⟩ : ∃ v, v = ixK xs x2 := ⟨_, rfl⟩
    rw [← hv1, ← hv2, ← hk1, ← hk2] at HR
    have HI1 : Hid (∀ w', Cls w1 w' → Calls Tryd.prog 28 #[.slice A n c, .string x1] w' fun e w2 => e = .returned (.tuple #[.int .i64 v1, .bool k1]) ∧ w' = w2) := fun w' hw => by rw [hv1, hk1]; exact indexOf_any (c := c) x1 w' ((HN.out.grow hS.bl).strs.grow hw) (by unfold maxLen; omega)
    have HI2 : Hid (∀ w', Cls w1 w' → Calls Tryd.prog 28 #[.slice A n c, .string x2] w' fun e w2 => e = .returned (.tuple #[.int .i64 v2, .bool k2]) ∧ w' = w2) := fun w' hw => by rw [hv2, hk2]; exact indexOf_any (c := c) x2 w' ((HN.out.grow hS.bl).strs.grow hw) (by unfold maxLen; omega)
    have HS := hid hS
    have C0 : ∀ w', Cls w1 w' → w'.cell? ⟨w.heap.size, 0, none⟩ = some (.slice A n c) := fun _ h => h.cell q0
    have C1 : ∀ w', Cls w1 w' → w'.cell? ⟨b1, o1 + 1, none⟩ = some (.string x1) := fun _ h => h.cell f1
    have C2 : ∀ w', Cls w1 w' → w'.cell? ⟨b1, o1 + 2, none⟩ = some (.string x2) := fun _ h => h.cell f2
    have C3 : ∀ w', Cls w1 w' → w'.cell? ⟨b1, o1 + 3, none⟩ = some (.string x3) := fun _ h => h.cell f3
    clear hS hb ho hsee hc1 q0 hv1 hv2 hk1 hk2 hL4 f1 hx1 f2 hx2 f3 hx3
    go_wp2_with fail
    refine region_cls (by kernel_rfl) (by kernel_rfl) ?_
    repeat (first
      | ((with_reducible refine quiet_pos ?_ (fun K hK => ?_))
         · rfl
         apply Exists.intro
         refine ⟨fun w' hw' => ?_, ?_⟩
         · go_simp
           first
             | with_reducible rfl
             | go_at_call 28; with_reducible exact hw'.same (HI1.out _ hw')
         simp only [Act.put, List.setIfInBounds_toArray, List.set_cons_zero, List.set_cons_succ]
         refine hK _ ?_; clear hK K)
      | ((with_reducible refine quiet_neg ?_ (fun K hK => ?_))
         · rfl
         simp only [Act.put, List.setIfInBounds_toArray, List.set_cons_zero, List.set_cons_succ]
         refine hK _ ?_; clear hK K))
    with_reducible refine wpQuiet_nil ?_
    intro wz hwz'
    have HB1 := hid hwz'
    clear HI1
    have D0 : ∀ w', Cls wz w' → w'.cell? ⟨w.heap.size, 0, none⟩ = some (.slice A n c) := fun _ h => C0 _ (Cls.next h HB1.out)
    have D2 : ∀ w', Cls wz w' → w'.cell? ⟨b1, o1 + 2, none⟩ = some (.string x2) := fun _ h => C2 _ (Cls.next h HB1.out)
    have D3 : ∀ w', Cls wz w' → w'.cell? ⟨b1, o1 + 3, none⟩ = some (.string x3) := fun _ h => C3 _ (Cls.next h HB1.out)
    have HI3 := hid (fun w' (h : Cls wz w') => HI2.out w' (Cls.next h HB1.out))
    replace HS := hid (HS.out.step HB1.out)
    clear HI2 C0 HB1 hwz' C1 C2 C3
    generalize wz = wa at *
    go_wp2_with fail
    refine region_cls (by kernel_rfl) (by kernel_rfl) ?_
    repeat (first
      | ((with_reducible refine quiet_pos ?_ (fun K hK => ?_))
         · rfl
         apply Exists.intro
         refine ⟨fun w' hw' => ?_, ?_⟩
         · go_simp
           first
             | with_reducible rfl
             | go_at_call 28; with_reducible exact hw'.same (HI3.out _ hw')
         simp only [Act.put, List.setIfInBounds_toArray, List.set_cons_zero, List.set_cons_succ]
         refine hK _ ?_; clear hK K)
      | ((with_reducible refine quiet_neg ?_ (fun K hK => ?_))
         · rfl
         simp only [Act.put, List.setIfInBounds_toArray, List.set_cons_zero, List.set_cons_succ]
         refine hK _ ?_; clear hK K))
    with_reducible refine wpQuiet_nil ?_
    intro wz hwz'
    replace HS := hid (HS.out.step hwz')
    have f3 := D3 _ hwz'
    clear HI3 hwz' D0 D2 D3
    go_wp2_with fail
    refine (implParseInt x3 _ (HT.out.on HS.out.bl) (HSE.out.on HS.out.bl) (by omega)).mono ?_
    rintro e w4 ⟨rfl, hb⟩
    have hS4 := HS.out.step hb
    obtain ⟨v3, hv3⟩ : ∃ v, rdV x3 = v := ⟨_, rfl⟩
    obtain ⟨k3, hk3⟩ : ∃ v, rdK x3 = v := ⟨_, rfl⟩
    rw [hv3, hk3] at HR
    rw [hv3, hk3]
    clear hv3 hk3 hb HS f3
    have HS5 := hid (hS4.blk_ w4.heap.size rfl 39 #[.int .i64 v1, .int .i64 v2, .int .i64 v3, .int .i64 0])
    clear hS4
    have p0 := HS5.out.cell 0 0 rfl rfl
    have p1 := HS5.out.cell 0 1 rfl rfl
    have p2 := HS5.out.cell 0 2 rfl rfl
    have p3 := HS5.out.cell 0 3 rfl rfl
    cases k1 <;> cases k2 <;> cases k3
    all_goals
      have hS9 := HS5.out
      have y0 := hS9.cell 2 0 rfl rfl
      have y1 := hS9.cell 2 1 rfl rfl
      have y2 := hS9.cell 2 2 rfl rfl
      have y3 := hS9.cell 2 3 rfl rfl
      have z0 := hS9.frozen 2 0 rfl
      have z1 := hS9.frozen 2 1 rfl
      have z2 := hS9.frozen 2 2 rfl
      have z3 := hS9.frozen 2 3 rfl
      have HE := hid ((((hS9.set 2 rfl 0 (.int .i64 v1)).set 2 rfl 1 (.int .i64 v2)).set 2 rfl 2 (.int .i64 v3)).set 2 rfl 3 (.int .i64 0))
      clear hS9 HS5
      go_wp2_with fail
      exact bodyPost_ret (v := .tuple #[.agg #[.int .i64 v1, .int .i64 v2, .int .i64 v3, .int .i64 0], .bool _]) (by simp [results, Tryd.results14, go_sem, y0, y1, y2, y3]; rfl) rfl
        ⟨⟨v1, v2, v3, 0⟩, _, rfl, by rw [HR.out]; rfl, HE.out.bl⟩
  by_cases hL6 : ws.length = 6
  · have HLE := hid hL6
    obtain ⟨x1, hx1⟩ := get_of (k := 1) (l := ws) rfl (by omega)
    obtain ⟨x2, hx2⟩ := get_of (k := 2) (l := ws) rfl (by omega)
    obtain ⟨x3, hx3⟩ := get_of (k := 3) (l := ws) rfl (by omega)
    obtain ⟨x5, hx5⟩ := get_of (k := 5) (l := ws) rfl (by omega)
    have HX1 := hid hx1
    have HX2 := hid hx2
    have HX3 := hid hx3
    have HX5 := hid hx5
    have hz1 := HPS.out x1 (List.mem_of_getElem? hx1)
    have hz2 := HPS.out x2 (List.mem_of_getElem? hx2)
    have hz3 := HPS.out x3 (List.mem_of_getElem? hx3)
    have hz5 := HPS.out x5 (List.mem_of_getElem? hx5)
    have HR : Hid (rdI xs ws = _) := rdI_6 hL6 hx1 hx2 hx3 hx5
    rw [hL6] at ho
    rw [hL6]
    have hsee : Sees elStr w1 w1.heap.size B1 6 ws := by have := ho.sees; rw [hL6] at this; exact this
    obtain ⟨b1, o1, rfl, _, hc1⟩ := hsee.at_ (k := 0) (by decide)
    replace hS := hS.owns_ (b0 := w.heap.size) hb ho (Nat.le_refl _) (by simp; omega)
    have f1 := hc1 1 x1 hx1 0 _ rfl
    have f2 := hc1 2 x2 hx2 0 _ rfl
    have f3 := hc1 3 x3 hx3 0 _ rfl
    have f5 := hc1 5 x5 hx5 0 _ rfl
    simp only [elStr, Nat.mul_one, Nat.add_zero] at f1 f2 f3 f5
    have q0 := hS.cell 2 0 rfl rfl
    obtain ⟨v1, hv1⟩ : ∃ v, v = ixV xs x1 := ⟨_, rfl⟩
    obtain ⟨k1, hk1⟩ : ∃ v, v = ixK xs x1 := ⟨_, rfl⟩
    obtain ⟨v2, hv2⟩ : ∃ v, v = ixV xs x2 := ⟨_, rfl⟩
    obtain ⟨k2, hk2⟩ : ∃ v, v = ixK xs x2 := ⟨_, rfl⟩
    rw [← hv1, ← hv2, ← hk1, ← hk2] at HR
    have HI1 : Hid (∀ w', Cls w1 w' → Calls Tryd.prog 28 #[.slice A n c, .string x1] w' fun e w2 => e = .returned (.tuple #[.int .i64 v1, .bool k1]) ∧ w' = w2) := fun w' hw => by rw [hv1, hk1]; exact indexOf_any (c := c) x1 w' ((HN.out.grow hS.bl).strs.grow hw) (by unfold maxLen; omega)
    have HI2 : Hid (∀ w', Cls w1 w' → Calls Tryd.prog 28 #[.slice A n c, .string x2] w' fun e w2 => e = .returned (.tuple #[.int .i64 v2, .bool k2]) ∧ w' = w2) := fun w' hw => by rw [hv2, hk2]; exact indexOf_any (c := c) x2 w' ((HN.out.grow hS.bl).strs.grow hw) (by unfold maxLen; omega)
    have HS := hid hS
    have C0 : ∀ w', Cls w1 w' → w'.cell? ⟨w.heap.size, 0, none⟩ = some (.slice A n c) := fun _ h => h.cell q0
    have C1 : ∀ w', Cls w1 w' → w'.cell? ⟨b1, o1 + 1, none⟩ = some (.string x1) := fun _ h => h.cell f1
    have C2 : ∀ w', Cls w1 w' → w'.cell? ⟨b1, o1 + 2, none⟩ = some (.string x2) := fun _ h => h.cell f2
    have C3 : ∀ w', Cls w1 w' → w'.cell? ⟨b1, o1 + 3, none⟩ = some (.string x3) := fun _ h => h.cell f3
    have C5 : ∀ w', Cls w1 w' → w'.cell? ⟨b1, o1 + 5, none⟩ = some (.string x5) := fun _ h => h.cell f5
    clear hS hb ho hsee hc1 q0 hv1 hv2 hk1 hk2 hL6 f1 hx1 f2 hx2 f3 hx3 f5 hx5
    go_wp2_with fail
    refine region_cls (by kernel_rfl) (by kernel_rfl) ?_
    repeat (first
      | ((with_reducible refine quiet_pos ?_ (fun K hK => ?_))
         · rfl
         apply Exists.intro
         refine ⟨fun w' hw' => ?_, ?_⟩
         · go_simp
           first
             | with_reducible rfl
             | go_at_call 28; with_reducible exact hw'.same (HI1.out _ hw')
         simp only [Act.put, List.setIfInBounds_toArray, List.set_cons_zero, List.set_cons_succ]
         refine hK _ ?_; clear hK K)
      | ((with_reducible refine quiet_neg ?_ (fun K hK => ?_))
         · rfl
         simp only [Act.put, List.setIfInBounds_toArray, List.set_cons_zero, List.set_cons_succ]
         refine hK _ ?_; clear hK K))
    with_reducible refine wpQuiet_nil ?_
    intro wz hwz'
    have HB1 := hid hwz'
    clear HI1
    have D0 : ∀ w', Cls wz w' → w'.cell? ⟨w.heap.size, 0, none⟩ = some (.slice A n c) := fun _ h => C0 _ (Cls.next h HB1.out)
    have D2 : ∀ w', Cls wz w' → w'.cell? ⟨b1, o1 + 2, none⟩ = some (.string x2) := fun _ h => C2 _ (Cls.next h HB1.out)
    have D3 : ∀ w', Cls wz w' → w'.cell? ⟨b1, o1 + 3, none⟩ = some (.string x3) := fun _ h => C3 _ (Cls.next h HB1.out)
    have D5 : ∀ w', Cls wz w' → w'.cell? ⟨b1, o1 + 5, none⟩ = some (.string x5) := fun _ h => C5 _ (Cls.next h HB1.out)
    have HI3 := hid (fun w' (h : Cls wz w') => HI2.out w' (Cls.next h HB1.out))
    replace HS := hid (HS.out.step HB1.out)
    clear HI2 C0 HB1 hwz' C1 C2 C3 C5
    generalize wz = wa at *
    go_wp2_with fail
    refine region_cls (by kernel_rfl) (by kernel_rfl) ?_
    repeat (first
      | ((with_reducible refine quiet_pos ?_ (fun K hK => ?_))
         · rfl
         apply Exists.intro
         refine ⟨fun w' hw' => ?_, ?_⟩
         · go_simp
           first
             | with_reducible rfl
             | go_at_call 28; with_reducible exact hw'.same (HI3.out _ hw')
         simp only [Act.put, List.setIfInBounds_toArray, List.set_cons_zero, List.set_cons_succ]
         refine hK _ ?_; clear hK K)
      | ((with_reducible refine quiet_neg ?_ (fun K hK => ?_))
         · rfl
         simp only [Act.put, List.setIfInBounds_toArray, List.set_cons_zero, List.set_cons_succ]
         refine hK _ ?_; clear hK K))
    with_reducible refine wpQuiet_nil ?_
    intro wz hwz'
    replace HS := hid (HS.out.step hwz')
    have f3 := D3 _ hwz'
    have f5 := D5 _ hwz'
    clear HI3 hwz' D0 D2 D3 D5
    go_wp2_with fail
    refine (implParseInt x3 _ (HT.out.on HS.out.bl) (HSE.out.on HS.out.bl) (by omega)).mono ?_
    rintro e w4 ⟨rfl, hb⟩
    have hS4 := HS.out.step hb
    replace f5 := bl_cell hb f5
    obtain ⟨v3, hv3⟩ : ∃ v, rdV x3 = v := ⟨_, rfl⟩
    obtain ⟨k3, hk3⟩ : ∃ v, rdK x3 = v := ⟨_, rfl⟩
    rw [hv3, hk3] at HR
    rw [hv3, hk3]
    clear hv3 hk3 hb HS f3
    have HS5 := hid (hS4.blk_ w4.heap.size rfl 39 #[.int .i64 v1, .int .i64 v2, .int .i64 v3, .int .i64 0])
    clear hS4
    have p5 := bl_cell (bl_alloc (Below.refl w4.heap.size w4) (.cells #[.int .i64 v1, .int .i64 v2, .int .i64 v3, .int .i64 0] 39)) f5
    clear f5
    go_wp2_with fail
    refine (implParseInt x5 _ (HT.out.on HS5.out.bl) (HSE.out.on HS5.out.bl) (by omega)).mono ?_
    rintro e w5 ⟨rfl, hb⟩
    have hS6 := HS5.out.step hb
    obtain ⟨v5, hv5⟩ : ∃ v, rdV x5 = v := ⟨_, rfl⟩
    obtain ⟨k5, hk5⟩ : ∃ v, rdK x5 = v := ⟨_, rfl⟩
    rw [hv5, hk5] at HR
    rw [hv5, hk5]
    clear hv5 hk5 hb HS5 p5
    cases k1 <;> cases k2 <;> cases k3 <;> cases k5
    all_goals
      have p0 := hS6.cell 0 0 rfl rfl
      have p1 := hS6.cell 0 1 rfl rfl
      have p2 := hS6.cell 0 2 rfl rfl
      have p3 := hS6.cell 0 3 rfl rfl
      have o3 := hS6.frozen 0 3 rfl
      have HS7 := hid (hS6.set 0 rfl 3 (.int .i64 v5))
      have y0 := hS6.cell 2 0 rfl rfl
      have y1 := hS6.cell 2 1 rfl rfl
      have y2 := hS6.cell 2 2 rfl rfl
      have y3 := hS6.cell 2 3 rfl rfl
      have z0 := hS6.frozen 2 0 rfl
      have z1 := hS6.frozen 2 1 rfl
      have z2 := hS6.frozen 2 2 rfl
      have z3 := hS6.frozen 2 3 rfl
      have HE := hid ((((HS7.out.set 2 rfl 0 (.int .i64 v1)).set 2 rfl 1 (.int .i64 v2)).set 2 rfl 2 (.int .i64 v3)).set 2 rfl 3 (.int .i64 v5))
      have t0 := HS7.out.cell 2 0 rfl rfl
      have t1 := HS7.out.cell 2 1 rfl rfl
      have t2 := HS7.out.cell 2 2 rfl rfl
      have t3 := HS7.out.cell 2 3 rfl rfl
      clear HS7 hS6
      go_wp2_with fail
      exact bodyPost_ret (v := .tuple #[.agg #[.int .i64 v1, .int .i64 v2, .int .i64 v3, .int .i64 v5], .bool _]) (by simp [results, Tryd.results14, go_sem, t0, t1, t2, t3]; rfl) rfl
        ⟨⟨v1, v2, v3, v5⟩, _, rfl, by rw [HR.out]; rfl, HE.out.bl⟩
  replace hS := hS.owns_ (b0 := w.heap.size) hb ho (Nat.le_refl _) (by simp; omega)
  have HR := hid (rdI_no (xs := xs) hL4 hL6)
  have i4 : ((ws.length : Int) != 4) = true := by rw [bne_iff_ne]; omega
  have i6 : ((ws.length : Int) != 6) = true := by rw [bne_iff_ne]; omega
  have y0 := hS.cell 1 0 rfl rfl
  have y1 := hS.cell 1 1 rfl rfl
  have y2 := hS.cell 1 2 rfl rfl
  have y3 := hS.cell 1 3 rfl rfl
  have z0 := hS.frozen 1 0 rfl
  have z1 := hS.frozen 1 1 rfl
  have z2 := hS.frozen 1 2 rfl
  have z3 := hS.frozen 1 3 rfl
  have HE := hid ((((hS.set 1 rfl 0 (.int .i64 0)).set 1 rfl 1 (.int .i64 0)).set 1 rfl 2 (.int .i64 0)).set 1 rfl 3 (.int .i64 0))
  clear hS hb ho hL4 hL6
  go_wp2_with fail
  exact bodyPost_ret (v := .tuple #[.agg #[.int .i64 0, .int .i64 0, .int .i64 0, .int .i64 0], .bool false]) (by simp [results, Tryd.results14, go_sem, y0, y1, y2, y3]) rfl
    ⟨⟨0, 0, 0, 0⟩, false, rfl, by rw [HR.out]; rfl, HE.out.bl⟩
end
end Go.Proofs.YtmkgicfgcoeilaaDoor
/- The program's linesOf, walked. Conditions: at most 1048576 bytes; the library's variable of the longest slice holds a number. -/
namespace Go.Proofs.YtmkgicfgcoeilaaDoor
open Go.RowKit
/-- Has the text lines, and which? -/
def lnB (s : ByteArray) : Bool := decide (s.size ≤ 4000) && Lib.hasSuffix s.data.toList [10]
def lnO (s : ByteArray) : List ByteArray := if lnB s then splA (butL s) 10 else []
theorem lnB_pos {s : ByteArray} (h : Lib.hasSuffix s.data.toList [10] = true) : 0 < s.size := by
  rcases Nat.eq_zero_or_pos s.size with h0 | h0
  · exfalso
    have : s.data.toList = [] := List.eq_nil_of_length_eq_zero (by simpa using h0)
    rw [this] at h
    revert h
    decide
  · exact h0
section
set_option maxHeartbeats 1000000 in
set_option maxRecDepth 100000 in
theorem linesOf_any (s : ByteArray) (w : World) (hm : Mx w) (hs : s.size ≤ 1048576) :
    Calls Tryd.prog 12 #[.string s] w fun e w' => ∃ A c, e = .returned (.tuple #[.slice A (lnO s).length c, .bool (lnB s)]) ∧ Owns elStr w' w.heap.size 9 (.slice A (lnO s).length c) (lnO s) ∧ Below w.heap.size w w' := by
  obtain ⟨b, hb⟩ : ∃ b, lnB s = b := ⟨_, rfl⟩
  obtain ⟨L, hL⟩ : ∃ L, lnO s = L := ⟨_, rfl⟩
  have HB := hid hb
  have HL := hid hL
  have HM := hid hm
  rw [hb, hL]
  clear hb hL hm
  have HNO : Hid (lnB s = false → b = false ∧ L = []) := fun h => ⟨by rw [← HB.out, h], by rw [← HL.out]; unfold lnO; rw [h]; rfl⟩
  by_cases h4 : s.size ≤ 4000
  · have i4 : ¬ (s.size : Int) > 4000 := by omega
    have HF := hid (fun w' => Tryd.strings_HasSuffix s ⟨#[10]⟩ w' (by omega))
    cases g : Lib.hasSuffix s.data.toList [10]
    · have H := hid (HNO.out (by unfold lnB; rw [g, Bool.and_false]))
      have HF2 : Hid (∀ w', Calls Tryd.prog 26 #[.string s, .string ⟨#[10]⟩] w' fun e w2 => e = .returned (.bool false) ∧ w2 = w') := fun w' => by rw [← g]; exact HF.out w'
      clear HF
      go_enter Tryd.func12, Tryd.ntmps12
      go_wp2_with fail
      refine (HF2.out _).mono ?_
      rintro e w1 ⟨rfl, rfl⟩
      go_wp2_with fail
      go_ret2
      exact ⟨none, 0, by rw [H.out.1, H.out.2]; rfl, by rw [H.out.2]; exact World.ownsRow_nil _ _ _ _, Below.refl _ _⟩
    · have hp := lnB_pos g
      have H : Hid (b = true ∧ L = splA (s.extract 0 (s.size - 1)) 10) := by
        have h1 : lnB s = true := by unfold lnB; rw [g, decide_eq_true h4]; rfl
        exact ⟨by rw [← HB.out, h1], by rw [← HL.out]; unfold lnO; rw [h1]; rfl⟩
      have HF2 : Hid (∀ w', Calls Tryd.prog 26 #[.string s, .string ⟨#[10]⟩] w' fun e w2 => e = .returned (.bool true) ∧ w2 = w') := fun w' => by rw [← g]; exact HF.out w'
      have iw : IntKind.i64.wrap ((s.size : Int) - 1) = ((s.size - 1 : Nat) : Int) := by rw [IntWalk.i64_in _ (by omega)]; omega
      obtain ⟨q, hq⟩ : ∃ q, q = s.extract 0 (s.size - 1) := ⟨_, rfl⟩
      have hqs : q.size ≤ 1048576 := by rw [hq, ByteArray.size_extract]; omega
      have HQ := hid hq
      clear HF hq
      go_enter Tryd.func12, Tryd.ntmps12
      go_wp2_with fail
      refine (HF2.out _).mono ?_
      rintro e w1 ⟨rfl, rfl⟩
      go_wp2_with fail
      rw [← HQ.out]
      refine (splB_any 10 q _ HM.out hqs).mono ?_
      rintro e w1 ⟨A2, c2, rfl, ho, hb⟩
      have HT10 : Hid ((UInt8.toNat 10 : Int) = 10) := hid rfl
      rw [HT10.out] at ho
      rw [HT10.out]
      have HO := hid ho
      have HB2 := hid hb
      clear ho hb
      go_wp2_with fail
      go_ret2
      exact ⟨A2, c2, by rw [H.out.1, H.out.2, ← HQ.out]; rfl, by rw [H.out.2, ← HQ.out]; exact HO.out, HB2.out⟩
  · have i4 : (s.size : Int) > 4000 := by omega
    have H := hid (HNO.out (by unfold lnB; rw [decide_eq_false h4]; rfl))
    go_enter Tryd.func12, Tryd.ntmps12
    go_wp2_with fail
    go_ret2
    exact ⟨none, 0, by rw [H.out.1, H.out.2]; rfl, by rw [H.out.2]; exact World.ownsRow_nil _ _ _ _, Below.refl _ _⟩
end
end Go.Proofs.YtmkgicfgcoeilaaDoor
/- The lines of a network's text read one by one, in plain Lean. Conditions: as each states. -/
namespace Go.Proofs.YtmkgicfgcoeilaaDoor
open Go.RowKit
theorem lnB_iff {s : ByteArray} : lnB s = true ↔ s.size ≤ 4000 ∧ s.data.toList.getLast? = some 10 := by
  unfold lnB Lib.hasSuffix
  rw [Bool.and_eq_true, decide_eq_true_eq, List.isSuffixOf_iff_suffix, List.getLast?_eq_some_iff]
  constructor
  · rintro ⟨h1, t, h2⟩
    exact ⟨h1, t, h2.symm⟩
  · rintro ⟨h1, t, h2⟩
    exact ⟨h1, t, h2.symm⟩
section
variable {xs : List ByteArray} {L : List ByteArray} {k : Nat} {l : ByteArray} {F : List Fib} {f : Fib}
/-- The first k lines give the fibers F; what the whole gives hangs on the rest. -/
def runI (xs : List ByteArray) (L : List ByteArray) (k : Nat) (F : List Fib) : Prop := rdLI xs L = (rdLI xs (L.drop k)).map (F ++ ·)
def runS (xs : List ByteArray) (L : List ByteArray) (k : Nat) (F : List Fib) : Prop := rdLS xs L = (rdLS xs (L.drop k)).map (F ++ ·)
theorem map_nil_app (o : Option (List Fib)) : o.map (([] : List Fib) ++ ·) = o := by cases o <;> rfl
theorem map_cons_app (o : Option (List Fib)) (F : List Fib) (f : Fib) : (o.map fun fs => f :: fs).map (F ++ ·) = o.map ((F ++ [f]) ++ ·) := by
  cases o with
  | none => rfl
  | some g => simp
theorem drop_at (hk : L[k]? = some l) : L.drop k = l :: L.drop (k + 1) := by
  have h := (List.getElem?_eq_some_iff.1 hk).1
  have h2 := (List.getElem?_eq_some_iff.1 hk).2
  rw [List.drop_eq_getElem_cons h, h2]
theorem runI_zero : runI xs L 0 [] := by unfold runI; rw [List.drop_zero, map_nil_app]
theorem runI_succ (h : runI xs L k F) (hk : L[k]? = some l) (hf : rdI xs (splA l 32) = some f) : runI xs L (k + 1) (F ++ [f]) := by
  unfold runI at h ⊢
  rw [h, drop_at hk, rdLI, hf]
  exact map_cons_app _ _ _
theorem runI_none (h : runI xs L k F) (hk : L[k]? = some l) (hf : rdI xs (splA l 32) = none) : rdLI xs L = none := by
  unfold runI at h
  rw [h, drop_at hk, rdLI, hf]; rfl
theorem runI_end (h : runI xs L L.length F) : rdLI xs L = some F := by
  unfold runI at h
  rw [h, List.drop_length]
  show some (F ++ []) = some F
  rw [List.append_nil]
theorem runS_zero : runS xs L 0 [] := by unfold runS; rw [List.drop_zero, map_nil_app]
theorem runS_succ (h : runS xs L k F) (hk : L[k]? = some l) (hi : isF l = true) (hf : rdS xs (splA l 32) = some f) : runS xs L (k + 1) (F ++ [f]) := by
  unfold runS at h ⊢
  rw [h, drop_at hk, rdLS, if_pos hi, hf]
  exact map_cons_app _ _ _
theorem runS_none (h : runS xs L k F) (hk : L[k]? = some l) (hi : isF l = true) (hf : rdS xs (splA l 32) = none) : rdLS xs L = none := by
  unfold runS at h
  rw [h, drop_at hk, rdLS, if_pos hi, hf]; rfl
theorem runS_stop (h : runS xs L k F) (hk : L[k]? = some l) (hi : isF l = false) : rdLS xs L = some F := by
  unfold runS at h
  rw [h, drop_at hk, rdLS, if_neg (by rw [hi]; decide)]
  show some (F ++ []) = some F
  rw [List.append_nil]
theorem runS_end (h : runS xs L L.length F) : rdLS xs L = some F := by
  unfold runS at h
  rw [h, List.drop_length]
  show some (F ++ []) = some F
  rw [List.append_nil]
end
/-- What is behind the first element of a row, wherever the slice of it points when nothing is left. -/
theorem tail_sees {α : Type} {E : El α} {w : World} {B g n c : Nat} {ws : List α} (h : Sees E w B (some ⟨g, 0, none⟩) n ws) (hsz : E.sz = 1) (h0 : 0 < n) (hc : n ≤ c) {P : Option Addr} (hP : P = if c = 1 then some ⟨g, 0, none⟩ else some ⟨g, 1, none⟩) : Sees E w B P (n - 1) (ws.drop 1) := by
  refine ⟨by rw [List.length_drop, h.1], ?_⟩
  by_cases h1 : c = 1
  · exact .inl (by omega)
  · rw [if_neg h1] at hP
    subst hP
    refine .inr ⟨g, 1, rfl, h.blt h0, fun k x hx j u hu => ?_⟩
    rw [List.getElem?_drop] at hx
    have h2 := h.cell hx hu
    rw [hsz] at h2 ⊢
    rw [show 1 + k * 1 + j = 0 + (1 + k) * 1 + j by omega]
    exact h2
end Go.Proofs.YtmkgicfgcoeilaaDoor
