/- Lemmas and walks that the claim rests on, laid together. Conditions: none. -/
import Derived.Test.YtfepilpllfiegaaZ17f740c013a7
import Derived.Test.YtfepilpllfiegaaZc3e33f13110d
import Derived.Deep.RegionHeld
import Derived.Below
/- The reader of choices of the laws, walked: what it draws lies within its bounds. Conditions: as each states. -/
namespace Go.Proofs.Ytfepilpllfiegaa
open Go.RowKit
/-- A reader in the block g, at place K at most. -/
def tCur (A : Option Addr) (n c g K : Nat) : Thing :=
  ⟨fun b => b = g, fun w => ∃ (at_ : Nat) (seed : Int), Blk w g 81 #[.slice A n c, .int .i64 at_, .int .u64 seed] ∧ at_ ≤ K ∧ 0 ≤ seed ∧ seed < 18446744073709551616,
    fun _ _ h _ hb => by obtain ⟨a, s, h1, h2⟩ := h; exact ⟨a, s, (hb g rfl).trans h1, h2⟩, fun _ h b e => by subst e; obtain ⟨a, s, h1, h2⟩ := h; exact h1.lt⟩
section
variable {w0 w : World} {L : List Thing} {A : Option Addr} {n c g K : Nat} {bs : List Int}
theorem tCur_set {w1 w2 : World} (h : Led w0 w1 L) (i : Nat) (hi : L[i]? = some (tCur A n c g K)) {a : Nat} {s : Int} {cur : Array Value} (_hg : Blk w1 g 81 cur)
    (h2 : Blk w2 g 81 #[.slice A n c, .int .i64 a, .int .u64 s]) (ht : Touch (fun b => b = g) w1 w2) (ha : a ≤ K + 1) (h0 : 0 ≤ s) (hs : s < 18446744073709551616) : Led w0 w2 (L.set i (tCur A n c g (K + 1))) :=
  h.touch i hi rfl ht ⟨a, s, h2, ha, h0, hs⟩
theorem u64_bd (x : Int) : 0 ≤ IntKind.u64.wrap x ∧ IntKind.u64.wrap x < 18446744073709551616 := by
  rw [IntKind.wrap_u64]; omega
theorem bits_255 (a : Int) : 0 ≤ Go.bits .and .u64 a 255 ∧ Go.bits .and .u64 a 255 ≤ 255 := by
  have h : Go.bits .and .u64 a 255 = IntKind.u64.wrap ((BitVec.ofInt 64 a &&& BitVec.ofInt 64 255).toNat : Int) := rfl
  rw [h, BitVec.toNat_and]
  have h2 : (BitVec.ofInt 64 a).toNat &&& (BitVec.ofInt 64 255).toNat ≤ 255 := Nat.and_le_right
  generalize (BitVec.ofInt 64 a).toNat &&& (BitVec.ofInt 64 255).toNat = y at *
  rw [IntKind.wrap_u64]
  omega
set_option maxHeartbeats 2000000 in
set_option maxRecDepth 100000 in
theorem next_led (h : Led w0 w L) (i : Nat) (hi : L[i]? = some (tCur A n c g K)) (hb : Sees elU w0 w0.heap.size A n bs) (hbs : ∀ x ∈ bs, 0 ≤ x ∧ x ≤ 255) (hn : n ≤ 1048576) (hK : K ≤ 1099511627776) :
    Calls Try.prog 119 #[.pointer (some ⟨g, 0, none⟩)] w fun e w' => ∃ v : Int, e = .returned (.int .i64 v) ∧ 0 ≤ v ∧ v ≤ 255 ∧ Led w0 w' (L.set i (tCur A n c g (K + 1))) := by
  obtain ⟨a, s, hg, haK, hs0, hs1⟩ := h.get i hi
  have hS := hid (hb.grow h.bl)
  have C0 : ∀ w', Cls w w' → w'.cell? ⟨g, 0, none⟩ = some (.slice A n c) := fun _ h => h.cell (by rw [hg.cell]; rfl)
  have C1 : ∀ w', Cls w w' → w'.cell? ⟨g, 1, none⟩ = some (.int .i64 a) := fun _ h => h.cell (by rw [hg.cell]; rfl)
  have HGB := hid hg
  have HH := hid h
  have HBS := hid hbs
  have hlen := hid hb.len
  by_cases hlt : a < n
  · obtain ⟨b, o, rfl, _, hc⟩ := hS.out.at_ hlt
    obtain ⟨x, hx⟩ : ∃ x, bs[a]? = some x := ⟨bs[a]'(by rw [hlen.out]; exact hlt), List.getElem?_eq_getElem _⟩
    have hcx := hc a x hx 0 _ rfl
    simp only [elU, Nat.mul_one, Nat.add_zero] at hcx
    have C2 : ∀ w', Cls w w' → w'.cell? ⟨b, o + a, none⟩ = some (.int .u8 x) := fun _ h => h.cell hcx
    have hxb := HBS.out x (List.mem_of_getElem? hx)
    have iwx : IntKind.i64.wrap x = x := IntWalk.i64_in _ (by omega)
    have i1 : (a : Int) < (n : Int) := by omega
    clear hcx hc hx hg h hb hbs
    go_enter Try.func119, Try.ntmps119
    go_wp2_with fail
    refine region_cls (by kernel_rfl) (by kernel_rfl) ?_
    repeat (first
      | ((with_reducible refine quiet_pos ?_ (fun K hK => ?_))
         · rfl
         apply Exists.intro
         refine ⟨fun w' hw' => ?_, ?_⟩
         · go_simp
           with_reducible rfl
         simp only [Act.put, List.setIfInBounds_toArray, List.set_cons_zero, List.set_cons_succ]
         refine hK _ ?_; clear hK K)
      | ((with_reducible refine quiet_neg ?_ (fun K hK => ?_))
         · rfl
         simp only [Act.put, List.setIfInBounds_toArray, List.set_cons_zero, List.set_cons_succ]
         refine hK _ ?_; clear hK K))
    with_reducible refine wpQuiet_nil ?_
    intro wz hwz'
    revert wz
    intro wa hwa
    have D0 : ∀ w', Cls wa w' → w'.cell? ⟨g, 0, none⟩ = some (.slice (some ⟨b, o, none⟩) n c) := fun _ h => C0 _ (bl_then hwa h)
    have D1 : ∀ w', Cls wa w' → w'.cell? ⟨g, 1, none⟩ = some (.int .i64 a) := fun _ h => C1 _ (bl_then hwa h)
    have D2 : ∀ w', Cls wa w' → w'.cell? ⟨b, o + a, none⟩ = some (.int .u8 x) := fun _ h => C2 _ (bl_then hwa h)
    clear C0 C1 C2
    go_wp2_with fail
    refine region_cls (by kernel_rfl) (by kernel_rfl) ?_
    repeat (first
      | ((with_reducible refine quiet_pos ?_ (fun K hK => ?_))
         · rfl
         apply Exists.intro
         refine ⟨fun w' hw' => ?_, ?_⟩
         · go_simp
           with_reducible rfl
         simp only [Act.put, List.setIfInBounds_toArray, List.set_cons_zero, List.set_cons_succ]
         refine hK _ ?_; clear hK K)
      | ((with_reducible refine quiet_neg ?_ (fun K hK => ?_))
         · rfl
         simp only [Act.put, List.setIfInBounds_toArray, List.set_cons_zero, List.set_cons_succ]
         refine hK _ ?_; clear hK K))
    with_reducible refine wpQuiet_nil ?_
    intro wz hwz'
    revert wz
    intro wb hwb
    have hwc := bl_then hwa hwb
    clear D0 D1 D2 hwa hwb
    have hgb := HGB.out.below hwc HGB.out.lt
    have HGC := hid hgb
    have HHC := hid (HH.out.step hwc)
    have p0 := hgb.cell 0
    have p1 := hgb.cell 1
    have p2 := hgb.cell 2
    have z1 := hgb.frozen 1
    have z2 := hgb.frozen 2
    simp only [List.getElem?_toArray, List.getElem?_cons_zero, List.getElem?_cons_succ] at p0 p1 p2
    clear hgb hwc
    go_wp2_with fail
    generalize hs2 : IntKind.u64.wrap (IntKind.u64.wrap (IntKind.u64.wrap (s * 6364136223846793005) + x) + 897897) = s2
    have hsb : 0 ≤ s2 ∧ s2 < 18446744073709551616 := by rw [← hs2]; exact u64_bd _
    clear hs2
    have hg2 := (HGC.out.set 1 (.int .i64 ((a : Int) + 1))).set 2 (.int .u64 s2)
    have ht2 : Touch (fun b => b = g) wb ((wb.setCell ⟨g, 1, none⟩ (.int .i64 ((a : Int) + 1))).setCell ⟨g, 2, none⟩ (.int .u64 s2)) := (Touch.set (S := fun b => b = g) wb (p := ⟨g, 1, none⟩) rfl _).trans (Touch.set (S := fun b => b = g) _ (p := ⟨g, 2, none⟩) rfl _)
    have hg3 : Blk ((wb.setCell ⟨g, 1, none⟩ (.int .i64 ((a : Int) + 1))).setCell ⟨g, 2, none⟩ (.int .u64 s2)) g 81 #[.slice (some ⟨b, o, none⟩) n c, .int .i64 ((a : Int) + 1), .int .u64 s2] := hg2
    clear hg2
    generalize ((wb.setCell ⟨g, 1, none⟩ (.int .i64 ((a : Int) + 1))).setCell ⟨g, 2, none⟩ (.int .u64 s2)) = W2 at *
    have HE := hid (tCur_set (s := s2) (a := a + 1) HHC.out i hi HGC.out hg3 ht2 (by omega) hsb.1 hsb.2)
    have E0 : ∀ w', Cls W2 w' → w'.cell? ⟨g, 0, none⟩ = some (.slice (some ⟨b, o, none⟩) n c) := fun _ h => h.cell (by rw [hg3.cell]; rfl)
    have E1 : ∀ w', Cls W2 w' → w'.cell? ⟨g, 1, none⟩ = some (.int .i64 ((a : Int) + 1)) := fun _ h => h.cell (by rw [hg3.cell]; rfl)
    clear hg3 ht2 p0 p1 p2 z1 z2
    have i2 : (a : Int) + 1 ≤ (n : Int) := by omega
    refine region_cls (by kernel_rfl) (by kernel_rfl) ?_
    repeat (first
      | ((with_reducible refine quiet_pos ?_ (fun K hK => ?_))
         · rfl
         apply Exists.intro
         refine ⟨fun w' hw' => ?_, ?_⟩
         · go_simp
           with_reducible rfl
         simp only [Act.put, List.setIfInBounds_toArray, List.set_cons_zero, List.set_cons_succ]
         refine hK _ ?_; clear hK K)
      | ((with_reducible refine quiet_neg ?_ (fun K hK => ?_))
         · rfl
         simp only [Act.put, List.setIfInBounds_toArray, List.set_cons_zero, List.set_cons_succ]
         refine hK _ ?_; clear hK K))
    with_reducible refine wpQuiet_nil ?_
    intro wz hwz'
    go_wp2_with fail
    go_ret
    exact ⟨x, rfl, hxb.1, hxb.2, HE.out.step hwz'⟩
  · have i1 : ¬ (a : Int) < (n : Int) := by omega
    clear hg h hb hbs
    go_enter Try.func119, Try.ntmps119
    go_wp2_with fail
    refine region_cls (by kernel_rfl) (by kernel_rfl) ?_
    repeat (first
      | ((with_reducible refine quiet_pos ?_ (fun K hK => ?_))
         · rfl
         apply Exists.intro
         refine ⟨fun w' hw' => ?_, ?_⟩
         · go_simp
           with_reducible rfl
         simp only [Act.put, List.setIfInBounds_toArray, List.set_cons_zero, List.set_cons_succ]
         refine hK _ ?_; clear hK K)
      | ((with_reducible refine quiet_neg ?_ (fun K hK => ?_))
         · rfl
         simp only [Act.put, List.setIfInBounds_toArray, List.set_cons_zero, List.set_cons_succ]
         refine hK _ ?_; clear hK K))
    with_reducible refine wpQuiet_nil ?_
    intro wz hwz'
    revert wz
    intro wb hwc
    clear C0 C1
    have hgb := HGB.out.below hwc HGB.out.lt
    have HGC := hid hgb
    have HHC := hid (HH.out.step hwc)
    have p0 := hgb.cell 0
    have p1 := hgb.cell 1
    have p2 := hgb.cell 2
    have z1 := hgb.frozen 1
    have z2 := hgb.frozen 2
    simp only [List.getElem?_toArray, List.getElem?_cons_zero, List.getElem?_cons_succ] at p0 p1 p2
    clear hgb hwc
    go_wp2_with fail
    generalize hs2 : IntKind.u64.wrap (IntKind.u64.wrap (IntKind.u64.wrap (s * 6364136223846793005)) + 897897) = s2
    have hsb : 0 ≤ s2 ∧ s2 < 18446744073709551616 := by rw [← hs2]; exact u64_bd _
    clear hs2
    have hg2 := (HGC.out.set 1 (.int .i64 ((a : Int) + 1))).set 2 (.int .u64 s2)
    have ht2 : Touch (fun b => b = g) wb ((wb.setCell ⟨g, 1, none⟩ (.int .i64 ((a : Int) + 1))).setCell ⟨g, 2, none⟩ (.int .u64 s2)) := (Touch.set (S := fun b => b = g) wb (p := ⟨g, 1, none⟩) rfl _).trans (Touch.set (S := fun b => b = g) _ (p := ⟨g, 2, none⟩) rfl _)
    have hg3 : Blk ((wb.setCell ⟨g, 1, none⟩ (.int .i64 ((a : Int) + 1))).setCell ⟨g, 2, none⟩ (.int .u64 s2)) g 81 #[.slice A n c, .int .i64 ((a : Int) + 1), .int .u64 s2] := hg2
    clear hg2
    generalize ((wb.setCell ⟨g, 1, none⟩ (.int .i64 ((a : Int) + 1))).setCell ⟨g, 2, none⟩ (.int .u64 s2)) = W2 at *
    have HE := hid (tCur_set (s := s2) (a := a + 1) HHC.out i hi HGC.out hg3 ht2 (by omega) hsb.1 hsb.2)
    have E0 : ∀ w', Cls W2 w' → w'.cell? ⟨g, 0, none⟩ = some (.slice A n c) := fun _ h => h.cell (by rw [hg3.cell]; rfl)
    have E1 : ∀ w', Cls W2 w' → w'.cell? ⟨g, 1, none⟩ = some (.int .i64 ((a : Int) + 1)) := fun _ h => h.cell (by rw [hg3.cell]; rfl)
    have E2 : ∀ w', Cls W2 w' → w'.cell? ⟨g, 2, none⟩ = some (.int .u64 s2) := fun _ h => h.cell (by rw [hg3.cell]; rfl)
    clear hg3 ht2 p0 p1 p2 z1 z2
    have i2 : ¬ (a : Int) + 1 ≤ (n : Int) := by omega
    refine region_cls (by kernel_rfl) (by kernel_rfl) ?_
    repeat (first
      | ((with_reducible refine quiet_pos ?_ (fun K hK => ?_))
         · rfl
         apply Exists.intro
         refine ⟨fun w' hw' => ?_, ?_⟩
         · go_simp
           with_reducible rfl
         simp only [Act.put, List.setIfInBounds_toArray, List.set_cons_zero, List.set_cons_succ]
         refine hK _ ?_; clear hK K)
      | ((with_reducible refine quiet_neg ?_ (fun K hK => ?_))
         · rfl
         simp only [Act.put, List.setIfInBounds_toArray, List.set_cons_zero, List.set_cons_succ]
         refine hK _ ?_; clear hK K))
    with_reducible refine wpQuiet_nil ?_
    intro wz hwz'
    have r2 := E2 wz hwz'
    clear E0 E1 E2
    have hb5 := bits_255 (s2 / 1099511627776)
    have iw := IntWalk.wrap64_in (Go.bits .and .u64 (s2 / 1099511627776) 255) (by omega)
    have HB5 := hid hb5
    have IW := hid iw
    clear hb5 iw
    go_wp2_with fail
    go_ret
    exact ⟨Go.bits .and .u64 (s2 / 1099511627776) 255, by rw [IW.out]; rfl, HB5.out.1, HB5.out.2, HE.out.step hwz'⟩
set_option maxHeartbeats 2000000 in
set_option maxRecDepth 100000 in
theorem pick_led (h : Led w0 w L) (i : Nat) (hi : L[i]? = some (tCur A n c g K)) (hb : Sees elU w0 w0.heap.size A n bs) (hbs : ∀ x ∈ bs, 0 ≤ x ∧ x ≤ 255) (hn : n ≤ 1048576) (hK : K + 1 ≤ 1099511627776) (m : Int) (hm : 0 ≤ m) (hm2 : m ≤ 1048576) :
    Calls Try.prog 55 #[.pointer (some ⟨g, 0, none⟩), .int .i64 m] w fun e w' => ∃ v : Int, e = .returned (.int .i64 v) ∧ 0 ≤ v ∧ (1 ≤ m → v < m) ∧ Led w0 w' (L.set i (tCur A n c g (K + 2))) := by
  have hset : ∀ t : Thing, (L.set i t)[i]? = some t := fun t => by rw [List.getElem?_set_self (List.getElem?_eq_some_iff.1 hi).1]
  have hweak : ∀ (J : Nat) W, Led w0 W (L.set i (tCur A n c g J)) → J ≤ K + 2 → Led w0 W (L.set i (tCur A n c g (K + 2))) := fun J W hl hJ => by
    have h2 := hl.touch i (hset _) (t' := tCur A n c g (K + 2)) rfl (Touch.refl _ _) (by obtain ⟨a, s, h1, h2, h3⟩ := hl.get i (hset _); exact ⟨a, s, h1, by omega, h3⟩)
    rwa [List.set_set] at h2
  by_cases h1 : m ≤ 1
  · have H0 : Hid (Led w0 w (L.set i (tCur A n c g (K + 2)))) := by
      refine hweak K w ?_ (by omega)
      have : L.set i (tCur A n c g K) = L := by
        obtain ⟨hl2, he⟩ := List.getElem?_eq_some_iff.1 hi
        rw [← he]; exact List.set_getElem_self hl2
      rw [this]; exact h
    clear hset hweak h hb hbs
    go_enter Try.func55, Try.ntmps55
    go_wp2_with fail
    go_ret
    exact ⟨0, rfl, by decide, fun _ => by omega, H0.out⟩
  · have HW := hid hweak
    have HN := hid (fun (J : Nat) W (hl : Led w0 W (L.set i (tCur A n c g J))) (hJ : J ≤ 1099511627776) => next_led (i := i) hl (hset _) hb hbs hn hJ)
    have HN0 := hid (next_led h i hi hb hbs hn (by omega))
    clear hset hweak h hb hbs
    by_cases h2 : m > 200
    · go_enter Try.func55, Try.ntmps55
      go_wp2_with fail
      refine HN0.out.mono ?_
      rintro e w1 ⟨x, rfl, hx0, hx1, hL1⟩
      have HL1 := hid hL1
      clear hL1
      go_wp2_with fail
      refine (HN.out _ _ HL1.out (by omega)).mono ?_
      rintro e w2 ⟨y, rfl, hy0, hy1, hL2⟩
      rw [List.set_set] at hL2
      have HL2 := hid hL2
      have hmod : 0 ≤ (x * 256 + y) % m ∧ (x * 256 + y) % m < m := ⟨Int.emod_nonneg _ (by omega), Int.emod_lt_of_pos _ (by omega)⟩
      have HM := hid hmod
      clear hL2 hmod HL1
      go_wp2_with fail
      go_ret
      exact ⟨_, rfl, HM.out.1, fun _ => HM.out.2, HL2.out⟩
    · go_enter Try.func55, Try.ntmps55
      go_wp2_with fail
      refine HN0.out.mono ?_
      rintro e w1 ⟨x, rfl, hx0, hx1, hL1⟩
      have HL1 := hid (HW.out _ _ hL1 (by omega))
      have hmod : 0 ≤ x % m ∧ x % m < m := ⟨Int.emod_nonneg _ (by omega), Int.emod_lt_of_pos _ (by omega)⟩
      have HM := hid hmod
      clear hL1 hmod
      go_wp2_with fail
      go_ret
      exact ⟨_, rfl, HM.out.1, fun _ => HM.out.2, HL1.out⟩
set_option maxHeartbeats 1000000 in
set_option maxRecDepth 100000 in
theorem one_led (h : Led w0 w L) (i : Nat) (hi : L[i]? = some (tCur A n c g K)) (hb : Sees elU w0 w0.heap.size A n bs) (hbs : ∀ x ∈ bs, 0 ≤ x ∧ x ≤ 255) (hn : n ≤ 1048576) (hK : K + 1 ≤ 1099511627776) (m : Int) (hm : 0 ≤ m) (hm2 : m ≤ 1048576) :
    Calls Try.prog 54 #[.pointer (some ⟨g, 0, none⟩), .int .i64 m] w fun e w' => ∃ v : Bool, e = .returned (.bool v) ∧ Led w0 w' (L.set i (tCur A n c g (K + 2))) := by
  have HP := hid (pick_led h i hi hb hbs hn hK m hm hm2)
  clear h hb hbs
  go_enter Try.func54, Try.ntmps54
  go_wp2_with fail
  refine HP.out.mono ?_
  rintro e w1 ⟨x, rfl, hx0, hx1, hL1⟩
  have HL1 := hid hL1
  clear hL1 hx1
  go_wp2_with fail
  go_ret
  exact ⟨_, rfl, HL1.out⟩
set_option maxHeartbeats 1000000 in
set_option maxRecDepth 100000 in
theorem of_led {m cc : Nat} {X : Option Addr} {xs : List ByteArray} (h : Led w0 w L) (i : Nat) (hi : L[i]? = some (tCur A n c g K)) (hb : Sees elU w0 w0.heap.size A n bs) (hbs : ∀ x ∈ bs, 0 ≤ x ∧ x ≤ 255) (hn : n ≤ 1048576) (hK : K + 1 ≤ 1099511627776)
    (hX : ∀ w', Led w0 w' (L.set i (tCur A n c g (K + 2))) → Sees elStr w' w'.heap.size X m xs) (hm : 1 ≤ m) (hm2 : m ≤ 1048576) :
    Calls Try.prog 118 #[.pointer (some ⟨g, 0, none⟩), .slice X m cc] w fun e w' => ∃ x, x ∈ xs ∧ e = .returned (.string x) ∧ Led w0 w' (L.set i (tCur A n c g (K + 2))) := by
  have HP := hid (pick_led h i hi hb hbs hn hK (m : Int) (by omega) (by omega))
  have HX := hid hX
  clear h hb hbs hX
  go_enter Try.func118, Try.ntmps118
  go_wp2_with fail
  refine HP.out.mono ?_
  rintro e w1 ⟨v, rfl, hx0, hx1, hL1⟩
  have hx2 := hx1 (by omega)
  have hs := HX.out _ hL1
  have HL1 := hid hL1
  obtain ⟨k, rfl⟩ : ∃ k : Nat, v = (k : Int) := ⟨v.toNat, by omega⟩
  obtain ⟨x, hxk⟩ : ∃ x, xs[k]? = some x := ⟨xs[k]'(by rw [hs.len]; omega), List.getElem?_eq_getElem _⟩
  obtain ⟨b, o, rfl, _, hc⟩ := hs.at_ (k := k) (by omega)
  have hcx := hc k x hxk 0 _ rfl
  simp only [elStr, Nat.mul_one, Nat.add_zero] at hcx
  have HX2 := hid (List.mem_of_getElem? hxk)
  clear hL1 hx1 hc hs hxk HX
  go_wp2_with fail
  go_ret
  exact ⟨x, HX2.out, rfl, HL1.out⟩
end
end Go.Proofs.Ytfepilpllfiegaa
/- The reader of choices: made anew; one of some texts. Conditions: as each states. -/
namespace Go.Proofs.Ytfepilpllfiegaa
open Go.RowKit
theorem sees_strs {w : World} {g : Nat} {e : TypeId} (xs : List ByteArray) (h : Blk w g e (xs.map Value.string).toArray) : Sees elStr w w.heap.size (some ⟨g, 0, none⟩) xs.length xs := by
  refine ⟨rfl, .inr ⟨g, 0, rfl, h.lt, fun k x hx j u hu => ?_⟩⟩
  have hu' : [Value.string x][j]? = some u := hu
  match j, hu' with
  | 0, hu' =>
    simp at hu'; subst hu'
    have e : 0 + k * elStr.sz + 0 = k := by show 0 + k * 1 + 0 = k; omega
    rw [e, h.cell, List.getElem?_toArray, List.getElem?_map, hx]
    rfl
  | j + 1, hu' => simp at hu'
section
variable {w0 w : World} {L : List Thing} {A : Option Addr} {n c g K : Nat} {bs : List Int}
theorem Led.cur (h : Led w0 w L) (g : Nat) (hg : g = w.heap.size) (A : Option Addr) (n c : Nat) : Led w0 (w.alloc (.cells #[.slice A n c, .int .i64 0, .int .u64 0] 81)) (tCur A n c g 0 :: L) := by
  subst hg
  exact h.put (bl_alloc (Below.refl _ _) _) _ (fun b e => by rw [e]; exact Nat.le_refl _) ⟨0, 0, Blk.new _ _ _, Nat.le_refl _, by decide, by decide⟩
/-- One of some texts, of a block of their own. -/
theorem of_blk_led (xs : List ByteArray) (h : Led w0 w L) (i : Nat) (hi : L[i]? = some (tCur A n c g K)) (hb : Sees elU w0 w0.heap.size A n bs) (hbs : ∀ x ∈ bs, 0 ≤ x ∧ x ≤ 255) (hn : n ≤ 1048576) (hK : K + 1 ≤ 1099511627776) (hm : 1 ≤ xs.length) (hm2 : xs.length ≤ 1048576) (cc b : Nat) (hb2 : b = w.heap.size) (e : TypeId) :
    Calls Try.prog 118 #[.pointer (some ⟨g, 0, none⟩), .slice (some ⟨b, 0, none⟩) xs.length cc] (w.alloc (.cells (xs.map Value.string).toArray e)) fun e w' => ∃ x, x ∈ xs ∧ e = .returned (.string x) ∧ Led w0 w' (L.set i (tCur A n c g (K + 2))) := by
  have h1 := h.blk_ b hb2 e (xs.map Value.string).toArray
  refine (of_led (xs := xs) (cc := cc) h1 (i + 1) (by simpa using hi) hb hbs hn hK (fun w' hl => sees_strs xs (hl.get 0 rfl)) hm hm2).mono ?_
  rintro e w' ⟨x, hx, he, hl⟩
  exact ⟨x, hx, he, hl.drop 1⟩
end
end Go.Proofs.Ytfepilpllfiegaa
/- One of some numbers, drawn. Conditions: as each states. -/
namespace Go.Proofs.Ytfepilpllfiegaa
open Go.RowKit
theorem sees_ints {w : World} {g : Nat} {e : TypeId} (xs : List Int) (h : Blk w g e (xs.map fun x => Value.int .i64 x).toArray) : Sees elInt w w.heap.size (some ⟨g, 0, none⟩) xs.length xs := by
  refine ⟨rfl, .inr ⟨g, 0, rfl, h.lt, fun k x hx j u hu => ?_⟩⟩
  have hu' : [Value.int .i64 x][j]? = some u := hu
  match j, hu' with
  | 0, hu' =>
    simp at hu'; subst hu'
    have e : 0 + k * elInt.sz + 0 = k := by show 0 + k * 1 + 0 = k; omega
    rw [e, h.cell, List.getElem?_toArray, List.getElem?_map, hx]
    rfl
  | j + 1, hu' => simp at hu'
section
variable {w0 w : World} {L : List Thing} {A : Option Addr} {n c g K : Nat} {bs : List Int}
set_option maxHeartbeats 1000000 in
set_option maxRecDepth 100000 in
theorem among_led {m cc : Nat} {X : Option Addr} {xs : List Int} (h : Led w0 w L) (i : Nat) (hi : L[i]? = some (tCur A n c g K)) (hb : Sees elU w0 w0.heap.size A n bs) (hbs : ∀ x ∈ bs, 0 ≤ x ∧ x ≤ 255) (hn : n ≤ 1048576) (hK : K + 1 ≤ 1099511627776)
    (hX : ∀ w', Led w0 w' (L.set i (tCur A n c g (K + 2))) → Sees elInt w' w'.heap.size X m xs) (hm : 1 ≤ m) (hm2 : m ≤ 1048576) :
    Calls Try.prog 104 #[.pointer (some ⟨g, 0, none⟩), .slice X m cc] w fun e w' => ∃ x, x ∈ xs ∧ e = .returned (.int .i64 x) ∧ Led w0 w' (L.set i (tCur A n c g (K + 2))) := by
  have HP := hid (pick_led h i hi hb hbs hn hK (m : Int) (by omega) (by omega))
  have HX := hid hX
  clear h hb hbs hX
  go_enter Try.func104, Try.ntmps104
  go_wp2_with fail
  refine HP.out.mono ?_
  rintro e w1 ⟨v, rfl, hx0, hx1, hL1⟩
  have hx2 := hx1 (by omega)
  have hs := HX.out _ hL1
  have HL1 := hid hL1
  obtain ⟨k, rfl⟩ : ∃ k : Nat, v = (k : Int) := ⟨v.toNat, by omega⟩
  obtain ⟨x, hxk⟩ : ∃ x, xs[k]? = some x := ⟨xs[k]'(by rw [hs.len]; omega), List.getElem?_eq_getElem _⟩
  obtain ⟨b, o, rfl, _, hc⟩ := hs.at_ (k := k) (by omega)
  have hcx := hc k x hxk 0 _ rfl
  simp only [elInt, Nat.mul_one, Nat.add_zero] at hcx
  have HX2 := hid (List.mem_of_getElem? hxk)
  clear hL1 hx1 hc hs hxk HX
  go_wp2_with fail
  go_ret
  exact ⟨x, HX2.out, rfl, HL1.out⟩
/-- One of some numbers, of a block of their own. -/
theorem among_blk_led (xs : List Int) (h : Led w0 w L) (i : Nat) (hi : L[i]? = some (tCur A n c g K)) (hb : Sees elU w0 w0.heap.size A n bs) (hbs : ∀ x ∈ bs, 0 ≤ x ∧ x ≤ 255) (hn : n ≤ 1048576) (hK : K + 1 ≤ 1099511627776) (hm : 1 ≤ xs.length) (hm2 : xs.length ≤ 1048576) (cc b : Nat) (hb2 : b = w.heap.size) (e : TypeId) :
    Calls Try.prog 104 #[.pointer (some ⟨g, 0, none⟩), .slice (some ⟨b, 0, none⟩) xs.length cc] (w.alloc (.cells (xs.map fun x => Value.int .i64 x).toArray e)) fun e w' => ∃ x, x ∈ xs ∧ e = .returned (.int .i64 x) ∧ Led w0 w' (L.set i (tCur A n c g (K + 2))) := by
  have h1 := h.blk_ b hb2 e (xs.map fun x => Value.int .i64 x).toArray
  refine (among_led (xs := xs) (cc := cc) h1 (i + 1) (by simpa using hi) hb hbs hn hK (fun w' hl => sees_ints xs (hl.get 0 rfl)) hm hm2).mono ?_
  rintro e w' ⟨x, hx, he, hl⟩
  exact ⟨x, hx, he, hl.drop 1⟩
end
end Go.Proofs.Ytfepilpllfiegaa
/- A drawn region whose last operation may break the condition on the worlds: the store into a cell that the region loads. Conditions: as each states. -/
namespace Go.Proofs.Ytfepilpllfiegaa
open Go.RowKit
section
variable {P : Program} {ops : Array Oper} {Q : Exit → Act → World → Prop} {md : Region.Mode} {S : World → Prop} {x : Nat}
/-- As 'wpAnyH', but behind operation x nothing is asked. -/
def wpAnyX (P : Program) (md : Region.Mode) (ops : Array Oper) (Q : Exit → Act → World → Prop) (S : World → Prop) (x : Nat) : Nat → Array Bool → Act → World → Prop
  | 0, listed, a, w => Region.ready md ops listed = [] ∧ Q .normal a w
  | fuel + 1, listed, a, w =>
    (Region.ready md ops listed = [] → Q .normal a w) ∧
    ∀ i ∈ Region.ready md ops listed, wpOp P ops Q i (fun a' w' => (i ≠ x → S w') ∧ wpAnyX P md ops Q S x fuel (listed.setIfInBounds i true) a' w') a w
theorem wpAny_of_X : ∀ (fuel : Nat) (listed : Array Bool) (a : Act) (w : World), wpAnyX P md ops Q S x fuel listed a w → wpAny P md ops Q fuel listed a w
  | 0, _, _, _, h => h
  | fuel + 1, _, _, _, h => ⟨h.1, fun i hi => wpOp_mono (fun a' w' h' => wpAny_of_X fuel _ a' w' h'.2) (h.2 i hi)⟩
/-- Operation x waits for operation i. -/
def waitsB (md : Region.Mode) (ops : Array Oper) (x i : Nat) : Bool := match ops[x]? with
  | some o => o.after.any (fun e => Region.binds md e && e.on == i)
  | none => true
theorem waits_not {listed : Array Bool} {i : Nat} (h : waitsB md ops x i = true) (hi : listed.getD i true = false) : x ∉ Region.ready md ops listed := by
  intro hx
  obtain ⟨_, o, ho, hall⟩ := mem_ready.1 hx
  unfold waitsB at h
  rw [ho] at h
  simp only [Array.any_eq_true'] at h
  obtain ⟨e, he, h2⟩ := h
  rw [Bool.and_eq_true, beq_iff_eq] at h2
  have h1 := hall e he h2.1
  rw [h2.2] at h1
  rcases Nat.lt_or_ge i listed.size with h' | h'
  · simp [h'] at hi h1; rw [hi] at h1; cases h1
  · simp [Array.getElem?_eq_none h'] at h1
theorem wpAnyX_first {i : Nat} {oi : Oper} {v : Value} (hi : ops[i]? = some oi) (hsel : ∀ (j : Nat) (o : Oper) cs b, ops[j]? = some o → o.op ≠ .select cs b)
    (hQ : ∀ c a w, Q (.panic c) (a.put oi.dst v) w → Q (.panic c) a w) (hx : waitsB md ops x i = true) :
    ∀ (fuel : Nat) (listed : Array Bool) (a : Act) (w : World),
      (∀ j oj, ops[j]? = some oj → j ≠ i → listed.getD j true = false → (∀ e ∈ oj.after, Region.binds md e = true → e.on ≠ i) → oi.apart ops oj = true) →
      i ∈ Region.ready md ops listed → YieldsIf P ops S oi v a → S w →
      wpAnyX P md ops Q S x fuel (listed.setIfInBounds i true) (a.put oi.dst v) w → wpAnyX P md ops Q S x (fuel + 1) listed a w := by
  intro fuel
  induction fuel with
  | zero =>
    intro listed a w _ hr hy hS H
    refine ⟨fun h => (by rw [h] at hr; cases hr), fun j hj => ?_⟩
    by_cases hji : j = i
    · subst hji; exact hy.wpOp hi hS ⟨fun _ => hS, H⟩
    · have := ready_mono hj hji
      rw [H.1] at this
      cases this
  | succ fuel ih =>
    intro listed a w hfree hr hy hS H
    refine ⟨fun h => (by rw [h] at hr; cases hr), fun j hj => ?_⟩
    by_cases hji : j = i
    · subst hji; exact hy.wpOp hi hS ⟨fun _ => hS, H⟩
    · have hjx : j ≠ x := fun e => waits_not hx (mem_ready.1 hr).1 (e ▸ hj)
      have h1 := H.2 j (ready_mono hj hji)
      obtain ⟨hjun, oj, hoj, hall⟩ := mem_ready.1 hj
      have hnot : ∀ e ∈ oj.after, Region.binds md e = true → e.on ≠ i := fun e he hb heq => by
        have h1 := hall e he hb
        have h0 := (mem_ready.1 hr).1
        rw [heq] at h1
        rcases Nat.lt_or_ge i listed.size with h' | h'
        · simp [h'] at h0 h1; rw [h0] at h1; cases h1
        · simp [Array.getElem?_eq_none h'] at h1
      have h2 := wpOp_putIf hoj (hfree j oj hoj hji hjun hnot) (fun cs b => hsel i oi cs b hi) (fun cs b => hsel j oj cs b hoj) hQ hy h1
      have hfree' : ∀ k ok, ops[k]? = some ok → k ≠ i → (listed.setIfInBounds j true).getD k true = false →
          (∀ e ∈ ok.after, Region.binds md e = true → e.on ≠ i) → oi.apart ops ok = true := fun k ok hk hki hun hno => by
        refine hfree k ok hk hki ?_ hno
        by_cases hjk : j = k
        · subst hjk; exact hjun
        · rw [getD_set_ne true hjk] at hun; exact hun
      refine wpOp_mono (fun a' w' h3 => ⟨fun _ => h3.2.1 hjx, ih (listed.setIfInBounds j true) a' w' hfree' (ready_mono hr (Ne.symm hji)) h3.1 (h3.2.1 hjx) ?_⟩) h2
      rw [Array.setIfInBounds_comm _ _ hji]
      exact h3.2.2
theorem wpAnyX_take {i : Nat} {oi : Oper} {v : Value} {fuel : Nat} {listed : Array Bool} {a : Act} {w : World} (hi : ops[i]? = some oi)
    (hs : Region.noSelect ops = true) (hf : Region.free md ops listed i = true) (hr : (Region.ready md ops listed).contains i = true) (hx : waitsB md ops x i = true)
    (hQ : ∀ c a w, Q (.panic c) (a.put oi.dst v) w → Q (.panic c) a w) (hy : YieldsIf P ops S oi v a) (hS : S w)
    (h : wpAnyX P md ops Q S x fuel (listed.setIfInBounds i true) (a.put oi.dst v) w) : wpAnyX P md ops Q S x (fuel + 1) listed a w :=
  wpAnyX_first hi (Region.noSelect_spec hs) hQ hx fuel listed a w (Region.free_spec hi hf) (by simpa using hr) hy hS h
theorem wpAnyX_done {listed : Array Bool} {a : Act} {w : World} (hr : Region.ready md ops listed = []) (h : Q .normal a w) :
    ∀ fuel, wpAnyX P md ops Q S x fuel listed a w
  | 0 => ⟨hr, h⟩
  | _ + 1 => ⟨fun _ => h, by rw [hr]; simp⟩
def AllReadyX (P : Program) (md : Region.Mode) (ops : Array Oper) (Q : Exit → Act → World → Prop) (S : World → Prop) (x fuel : Nat) (listed : Array Bool) (a : Act) (w : World) (rs : List Nat) : Prop :=
  ∀ i ∈ rs, wpOp P ops Q i (fun a' w' => (i ≠ x → S w') ∧ wpAnyX P md ops Q S x fuel (listed.setIfInBounds i true) a' w') a w
theorem AllReadyX.nil {fuel : Nat} {listed : Array Bool} {a : Act} {w : World} : AllReadyX P md ops Q S x fuel listed a w [] := fun _ h => by cases h
theorem AllReadyX.cons {fuel : Nat} {listed : Array Bool} {a : Act} {w : World} {i : Nat} {o : Oper} {rs : List Nat} (ho : ops[i]? = some o)
    (h : ∀ K' : Act → World → Prop, Shut (∀ a w, S w → (S w → wpAnyX P md ops Q S x fuel (listed.setIfInBounds i true) a w) → K' a w) → if Region.wanted o (yielded ops a.tmps) = true then Oper.wp P o a w K' Q else K' (a.put o.dst undef) w)
    (hs : AllReadyX P md ops Q S x fuel listed a w rs) : AllReadyX P md ops Q S x fuel listed a w (i :: rs) := fun j hj => by
  rcases List.mem_cons.1 hj with rfl | hj
  · exact wpOp_step ho (fun K' hK => h K' (fun a w hS hW => hK a w ⟨fun _ => hS, hW hS⟩))
  · exact hs j hj
/-- The operation behind which nothing is asked. -/
theorem AllReadyX.last {fuel : Nat} {listed : Array Bool} {a : Act} {w : World} {o : Oper} (ho : ops[x]? = some o)
    (h : ∀ K' : Act → World → Prop, Shut (∀ a w, wpAnyX P md ops Q S x fuel (listed.setIfInBounds x true) a w → K' a w) → if Region.wanted o (yielded ops a.tmps) = true then Oper.wp P o a w K' Q else K' (a.put o.dst undef) w) : AllReadyX P md ops Q S x fuel listed a w [x] := fun j hj => by
  rcases List.mem_cons.1 hj with rfl | hj
  · exact wpOp_step ho (fun K' hK => h K' (fun a w hW => hK a w ⟨fun e => absurd rfl e, hW⟩))
  · cases hj
theorem wpAnyX_ready {rs : List Nat} {fuel : Nat} {listed : Array Bool} {a : Act} {w : World} (hr : Region.ready md ops listed = rs) (hne : rs ≠ [])
    (h : AllReadyX P md ops Q S x fuel listed a w rs) : wpAnyX P md ops Q S x (fuel + 1) listed a w := ⟨fun h0 => absurd (hr ▸ h0) hne, hr ▸ h⟩
theorem wp_region_heldX (x : Nat) (S : World → Prop) {id : Nat} {a : Act} {w : World} (hm : P.follows .mixedOrders = true) (hS : S w.drew)
    (h : S w.drew → wpAnyX P .any ops Q S x ops.size (Array.replicate ops.size false) a w.drew) : (Code.region id ops true).wp P Q a w :=
  wp_region_any hm (wpAny_of_X _ _ _ _ (h hS))
end
end Go.Proofs.Ytfepilpllfiegaa
