/- Lemmas and walks that the claim rests on, laid together. Conditions: none. -/
import Derived.Test.YtonndpcmadnpmaaDoorZ34e4de017d5a
import Derived.Laws.IdiomStrings
import Derived.Lib.ItoaMem
import Derived.Lib.Atoi
import Derived.Lib.Join
import Derived.Lib.IndexLaws
import Derived.Lib.IndexMore
import Derived.Test.YtonndpcmadnpmaaDoorRows
import Derived.WalkKit
/- The reader of choices of the laws, walked: what it draws lies within its bounds. Conditions: as each states. -/
namespace Go.Proofs.YtonndpcmadnpmaaDoor
open Go.RowKit
/-- A reader in the block g, at place K at most. -/
def tCur (A : Option Addr) (n c g K : Nat) : Thing :=
  ⟨fun b => b = g, fun w => ∃ (at_ : Nat) (seed : Int), Blk w g 51 #[.slice A n c, .int .i64 at_, .int .u64 seed] ∧ at_ ≤ K ∧ 0 ≤ seed ∧ seed < 18446744073709551616,
    fun _ _ h _ hb => by obtain ⟨a, s, h1, h2⟩ := h; exact ⟨a, s, (hb g rfl).trans h1, h2⟩, fun _ h b e => by subst e; obtain ⟨a, s, h1, h2⟩ := h; exact h1.lt⟩
section
variable {w0 w : World} {L : List Thing} {A : Option Addr} {n c g K : Nat} {bs : List Int}
theorem tCur_set {w1 w2 : World} (h : Led w0 w1 L) (i : Nat) (hi : L[i]? = some (tCur A n c g K)) {a : Nat} {s : Int} {cur : Array Value} (_hg : Blk w1 g 51 cur)
    (h2 : Blk w2 g 51 #[.slice A n c, .int .i64 a, .int .u64 s]) (ht : Touch (fun b => b = g) w1 w2) (ha : a ≤ K + 1) (h0 : 0 ≤ s) (hs : s < 18446744073709551616) : Led w0 w2 (L.set i (tCur A n c g (K + 1))) :=
  h.touch i hi rfl ht ⟨a, s, h2, ha, h0, hs⟩
theorem u64_bd (x : Int) : 0 ≤ IntKind.u64.wrap x ∧ IntKind.u64.wrap x < 18446744073709551616 := by
  rw [IntKind.wrap_u64]; omega
theorem bits_255 (a : Int) : 0 ≤ Go.bits .and .u64 a 255 ∧ Go.bits .and .u64 a 255 ≤ 255 := by
  have h : Go.bits .and .u64 a 255 = IntKind.u64.wrap ((BitVec.ofInt 64 a &&& BitVec.ofInt 64 255).toNat : Int) := rfl
  rw [h, BitVec.toNat_and]
  have h2 : (BitVec.ofInt 64 a).toNat &&& (BitVec.ofInt 64 255).toNat ≤ 255 := Nat.and_le_right
  generalize (BitVec.ofInt 64 a).toNat &&& (BitVec.ofInt 64 255).toNat = y at *
  rw [IntKind.wrap_u64]
  omega
set_option maxHeartbeats 2000000 in
set_option maxRecDepth 100000 in
theorem next_led (h : Led w0 w L) (i : Nat) (hi : L[i]? = some (tCur A n c g K)) (hb : Sees elU w0 w0.heap.size A n bs) (hbs : ∀ x ∈ bs, 0 ≤ x ∧ x ≤ 255) (hn : n ≤ 1048576) (hK : K ≤ 1099511627776) :
    Calls Tryd.prog 44 #[.pointer (some ⟨g, 0, none⟩)] w fun e w' => ∃ v : Int, e = .returned (.int .i64 v) ∧ 0 ≤ v ∧ v ≤ 255 ∧ Led w0 w' (L.set i (tCur A n c g (K + 1))) := by
  obtain ⟨a, s, hg, haK, hs0, hs1⟩ := h.get i hi
  have hS := hid (hb.grow h.bl)
  have C0 : ∀ w', Cls w w' → w'.cell? ⟨g, 0, none⟩ = some (.slice A n c) := fun _ h => h.cell (by rw [hg.cell]; rfl)
  have C1 : ∀ w', Cls w w' → w'.cell? ⟨g, 1, none⟩ = some (.int .i64 a) := fun _ h => h.cell (by rw [hg.cell]; rfl)
  have HGB := hid hg
  have HH := hid h
  have HBS := hid hbs
  have hlen := hid hb.len
  by_cases hlt : a < n
  · obtain ⟨b, o, rfl, _, hc⟩ := hS.out.at_ hlt
    obtain ⟨x, hx⟩ : ∃ x, bs[a]? = some x := ⟨bs[a]'(by rw [hlen.out]; exact hlt), List.getElem?_eq_getElem _⟩
    have hcx := hc a x hx 0 _ rfl
    simp only [elU, Nat.mul_one, Nat.add_zero] at hcx
    have C2 : ∀ w', Cls w w' → w'.cell? ⟨b, o + a, none⟩ = some (.int .u8 x) := fun _ h => h.cell hcx
    have hxb := HBS.out x (List.mem_of_getElem? hx)
    have iwx : IntKind.i64.wrap x = x := IntWalk.i64_in _ (by omega)
    have i1 : (a : Int) < (n : Int) := by omega
    clear hcx hc hx hg h hb hbs
    go_enter Tryd.func44, Tryd.ntmps44
    go_wp2_with fail
    refine region_cls (by kernel_rfl) (by kernel_rfl) ?_
    repeat (first
      | ((with_reducible refine quiet_pos ?_ (fun K hK => ?_))
         · rfl
         apply Exists.intro
         refine ⟨fun w' hw' => ?_, ?_⟩
         · go_simp
           with_reducible rfl
         simp only [Act.put, List.setIfInBounds_toArray, List.set_cons_zero, List.set_cons_succ]
         refine hK _ ?_; clear hK K)
      | ((with_reducible refine quiet_neg ?_ (fun K hK => ?_))
         · rfl
         simp only [Act.put, List.setIfInBounds_toArray, List.set_cons_zero, List.set_cons_succ]
         refine hK _ ?_; clear hK K))
    with_reducible refine wpQuiet_nil ?_
    intro wz hwz'
    revert wz
    intro wa hwa
    have D0 : ∀ w', Cls wa w' → w'.cell? ⟨g, 0, none⟩ = some (.slice (some ⟨b, o, none⟩) n c) := fun _ h => C0 _ (bl_then hwa h)
    have D1 : ∀ w', Cls wa w' → w'.cell? ⟨g, 1, none⟩ = some (.int .i64 a) := fun _ h => C1 _ (bl_then hwa h)
    have D2 : ∀ w', Cls wa w' → w'.cell? ⟨b, o + a, none⟩ = some (.int .u8 x) := fun _ h => C2 _ (bl_then hwa h)
    clear C0 C1 C2
    go_wp2_with fail
    refine region_cls (by kernel_rfl) (by kernel_rfl) ?_
    repeat (first
      | ((with_reducible refine quiet_pos ?_ (fun K hK => ?_))
         · rfl
         apply Exists.intro
         refine ⟨fun w' hw' => ?_, ?_⟩
         · go_simp
           with_reducible rfl
         simp only [Act.put, List.setIfInBounds_toArray, List.set_cons_zero, List.set_cons_succ]
         refine hK _ ?_; clear hK K)
      | ((with_reducible refine quiet_neg ?_ (fun K hK => ?_))
         · rfl
         simp only [Act.put, List.setIfInBounds_toArray, List.set_cons_zero, List.set_cons_succ]
         refine hK _ ?_; clear hK K))
    with_reducible refine wpQuiet_nil ?_
    intro wz hwz'
    revert wz
    intro wb hwb
    have hwc := bl_then hwa hwb
    clear D0 D1 D2 hwa hwb
    have hgb := HGB.out.below hwc HGB.out.lt
    have HGC := hid hgb
    have HHC := hid (HH.out.step hwc)
    have p0 := hgb.cell 0
    have p1 := hgb.cell 1
    have p2 := hgb.cell 2
    have z1 := hgb.frozen 1
    have z2 := hgb.frozen 2
    simp only [List.getElem?_toArray, List.getElem?_cons_zero, List.getElem?_cons_succ] at p0 p1 p2
    clear hgb hwc
    go_wp2_with fail
    generalize hs2 : IntKind.u64.wrap (IntKind.u64.wrap (IntKind.u64.wrap (s * 6364136223846793005) + x) + 897897) = s2
    have hsb : 0 ≤ s2 ∧ s2 < 18446744073709551616 := by rw [← hs2]; exact u64_bd _
    clear hs2
    have hg2 := (HGC.out.set 1 (.int .i64 ((a : Int) + 1))).set 2 (.int .u64 s2)
    have ht2 : Touch (fun b => b = g) wb ((wb.setCell ⟨g, 1, none⟩ (.int .i64 ((a : Int) + 1))).setCell ⟨g, 2, none⟩ (.int .u64 s2)) := (Touch.set (S := fun b => b = g) wb (p := ⟨g, 1, none⟩) rfl _).trans (Touch.set (S := fun b => b = g) _ (p := ⟨g, 2, none⟩) rfl _)
    have hg3 : Blk ((wb.setCell ⟨g, 1, none⟩ (.int .i64 ((a : Int) + 1))).setCell ⟨g, 2, none⟩ (.int .u64 s2)) g 51 #[.slice (some ⟨b, o, none⟩) n c, .int .i64 ((a : Int) + 1), .int .u64 s2] := hg2
    clear hg2
    generalize ((wb.setCell ⟨g, 1, none⟩ (.int .i64 ((a : Int) + 1))).setCell ⟨g, 2, none⟩ (.int .u64 s2)) = W2 at *
    have HE := hid (tCur_set (s := s2) (a := a + 1) HHC.out i hi HGC.out hg3 ht2 (by omega) hsb.1 hsb.2)
    have E0 : ∀ w', Cls W2 w' → w'.cell? ⟨g, 0, none⟩ = some (.slice (some ⟨b, o, none⟩) n c) := fun _ h => h.cell (by rw [hg3.cell]; rfl)
    have E1 : ∀ w', Cls W2 w' → w'.cell? ⟨g, 1, none⟩ = some (.int .i64 ((a : Int) + 1)) := fun _ h => h.cell (by rw [hg3.cell]; rfl)
    clear hg3 ht2 p0 p1 p2 z1 z2
    have i2 : (a : Int) + 1 ≤ (n : Int) := by omega
    refine region_cls (by kernel_rfl) (by kernel_rfl) ?_
    repeat (first
      | ((with_reducible refine quiet_pos ?_ (fun K hK => ?_))
         · rfl
         apply Exists.intro
         refine ⟨fun w' hw' => ?_, ?_⟩
         · go_simp
           with_reducible rfl
         simp only [Act.put, List.setIfInBounds_toArray, List.set_cons_zero, List.set_cons_succ]
         refine hK _ ?_; clear hK K)
      | ((with_reducible refine quiet_neg ?_ (fun K hK => ?_))
         · rfl
         simp only [Act.put, List.setIfInBounds_toArray, List.set_cons_zero, List.set_cons_succ]
         refine hK _ ?_; clear hK K))
    with_reducible refine wpQuiet_nil ?_
    intro wz hwz'
    go_wp2_with fail
    go_ret
    exact ⟨x, rfl, hxb.1, hxb.2, HE.out.step hwz'⟩
  · have i1 : ¬ (a : Int) < (n : Int) := by omega
    clear hg h hb hbs
    go_enter Tryd.func44, Tryd.ntmps44
    go_wp2_with fail
    refine region_cls (by kernel_rfl) (by kernel_rfl) ?_
    repeat (first
      | ((with_reducible refine quiet_pos ?_ (fun K hK => ?_))
         · rfl
         apply Exists.intro
         refine ⟨fun w' hw' => ?_, ?_⟩
         · go_simp
           with_reducible rfl
         simp only [Act.put, List.setIfInBounds_toArray, List.set_cons_zero, List.set_cons_succ]
         refine hK _ ?_; clear hK K)
      | ((with_reducible refine quiet_neg ?_ (fun K hK => ?_))
         · rfl
         simp only [Act.put, List.setIfInBounds_toArray, List.set_cons_zero, List.set_cons_succ]
         refine hK _ ?_; clear hK K))
    with_reducible refine wpQuiet_nil ?_
    intro wz hwz'
    revert wz
    intro wb hwc
    clear C0 C1
    have hgb := HGB.out.below hwc HGB.out.lt
    have HGC := hid hgb
    have HHC := hid (HH.out.step hwc)
    have p0 := hgb.cell 0
    have p1 := hgb.cell 1
    have p2 := hgb.cell 2
    have z1 := hgb.frozen 1
    have z2 := hgb.frozen 2
    simp only [List.getElem?_toArray, List.getElem?_cons_zero, List.getElem?_cons_succ] at p0 p1 p2
    clear hgb hwc
    go_wp2_with fail
    generalize hs2 : IntKind.u64.wrap (IntKind.u64.wrap (IntKind.u64.wrap (s * 6364136223846793005)) + 897897) = s2
    have hsb : 0 ≤ s2 ∧ s2 < 18446744073709551616 := by rw [← hs2]; exact u64_bd _
    clear hs2
    have hg2 := (HGC.out.set 1 (.int .i64 ((a : Int) + 1))).set 2 (.int .u64 s2)
    have ht2 : Touch (fun b => b = g) wb ((wb.setCell ⟨g, 1, none⟩ (.int .i64 ((a : Int) + 1))).setCell ⟨g, 2, none⟩ (.int .u64 s2)) := (Touch.set (S := fun b => b = g) wb (p := ⟨g, 1, none⟩) rfl _).trans (Touch.set (S := fun b => b = g) _ (p := ⟨g, 2, none⟩) rfl _)
    have hg3 : Blk ((wb.setCell ⟨g, 1, none⟩ (.int .i64 ((a : Int) + 1))).setCell ⟨g, 2, none⟩ (.int .u64 s2)) g 51 #[.slice A n c, .int .i64 ((a : Int) + 1), .int .u64 s2] := hg2
    clear hg2
    generalize ((wb.setCell ⟨g, 1, none⟩ (.int .i64 ((a : Int) + 1))).setCell ⟨g, 2, none⟩ (.int .u64 s2)) = W2 at *
    have HE := hid (tCur_set (s := s2) (a := a + 1) HHC.out i hi HGC.out hg3 ht2 (by omega) hsb.1 hsb.2)
    have E0 : ∀ w', Cls W2 w' → w'.cell? ⟨g, 0, none⟩ = some (.slice A n c) := fun _ h => h.cell (by rw [hg3.cell]; rfl)
    have E1 : ∀ w', Cls W2 w' → w'.cell? ⟨g, 1, none⟩ = some (.int .i64 ((a : Int) + 1)) := fun _ h => h.cell (by rw [hg3.cell]; rfl)
    have E2 : ∀ w', Cls W2 w' → w'.cell? ⟨g, 2, none⟩ = some (.int .u64 s2) := fun _ h => h.cell (by rw [hg3.cell]; rfl)
    clear hg3 ht2 p0 p1 p2 z1 z2
    have i2 : ¬ (a : Int) + 1 ≤ (n : Int) := by omega
    refine region_cls (by kernel_rfl) (by kernel_rfl) ?_
    repeat (first
      | ((with_reducible refine quiet_pos ?_ (fun K hK => ?_))
         · rfl
         apply Exists.intro
         refine ⟨fun w' hw' => ?_, ?_⟩
         · go_simp
           with_reducible rfl
         simp only [Act.put, List.setIfInBounds_toArray, List.set_cons_zero, List.set_cons_succ]
         refine hK _ ?_; clear hK K)
      | ((with_reducible refine quiet_neg ?_ (fun K hK => ?_))
         · rfl
         simp only [Act.put, List.setIfInBounds_toArray, List.set_cons_zero, List.set_cons_succ]
         refine hK _ ?_; clear hK K))
    with_reducible refine wpQuiet_nil ?_
    intro wz hwz'
    have r2 := E2 wz hwz'
    clear E0 E1 E2
    have hb5 := bits_255 (s2 / 1099511627776)
    have iw := IntWalk.wrap64_in (Go.bits .and .u64 (s2 / 1099511627776) 255) (by omega)
    have HB5 := hid hb5
    have IW := hid iw
    clear hb5 iw
    go_wp2_with fail
    go_ret
    exact ⟨Go.bits .and .u64 (s2 / 1099511627776) 255, by rw [IW.out]; rfl, HB5.out.1, HB5.out.2, HE.out.step hwz'⟩
set_option maxHeartbeats 2000000 in
set_option maxRecDepth 100000 in
theorem pick_led (h : Led w0 w L) (i : Nat) (hi : L[i]? = some (tCur A n c g K)) (hb : Sees elU w0 w0.heap.size A n bs) (hbs : ∀ x ∈ bs, 0 ≤ x ∧ x ≤ 255) (hn : n ≤ 1048576) (hK : K + 1 ≤ 1099511627776) (m : Int) (hm : 0 ≤ m) (hm2 : m ≤ 1048576) :
    Calls Tryd.prog 34 #[.pointer (some ⟨g, 0, none⟩), .int .i64 m] w fun e w' => ∃ v : Int, e = .returned (.int .i64 v) ∧ 0 ≤ v ∧ (1 ≤ m → v < m) ∧ Led w0 w' (L.set i (tCur A n c g (K + 2))) := by
  have hset : ∀ t : Thing, (L.set i t)[i]? = some t := fun t => by rw [List.getElem?_set_self (List.getElem?_eq_some_iff.1 hi).1]
  have hweak : ∀ (J : Nat) W, Led w0 W (L.set i (tCur A n c g J)) → J ≤ K + 2 → Led w0 W (L.set i (tCur A n c g (K + 2))) := fun J W hl hJ => by
    have h2 := hl.touch i (hset _) (t' := tCur A n c g (K + 2)) rfl (Touch.refl _ _) (by obtain ⟨a, s, h1, h2, h3⟩ := hl.get i (hset _); exact ⟨a, s, h1, by omega, h3⟩)
    rwa [List.set_set] at h2
  by_cases h1 : m ≤ 1
  · have H0 : Hid (Led w0 w (L.set i (tCur A n c g (K + 2)))) := by
      refine hweak K w ?_ (by omega)
      have : L.set i (tCur A n c g K) = L := by
        obtain ⟨hl2, he⟩ := List.getElem?_eq_some_iff.1 hi
        rw [← he]; exact List.set_getElem_self hl2
      rw [this]; exact h
    clear hset hweak h hb hbs
    go_enter Tryd.func34, Tryd.ntmps34
    go_wp2_with fail
    go_ret
    exact ⟨0, rfl, by decide, fun _ => by omega, H0.out⟩
  · have HW := hid hweak
    have HN := hid (fun (J : Nat) W (hl : Led w0 W (L.set i (tCur A n c g J))) (hJ : J ≤ 1099511627776) => next_led (i := i) hl (hset _) hb hbs hn hJ)
    have HN0 := hid (next_led h i hi hb hbs hn (by omega))
    clear hset hweak h hb hbs
    by_cases h2 : m > 200
    · go_enter Tryd.func34, Tryd.ntmps34
      go_wp2_with fail
      refine HN0.out.mono ?_
      rintro e w1 ⟨x, rfl, hx0, hx1, hL1⟩
      have HL1 := hid hL1
      clear hL1
      go_wp2_with fail
      refine (HN.out _ _ HL1.out (by omega)).mono ?_
      rintro e w2 ⟨y, rfl, hy0, hy1, hL2⟩
      rw [List.set_set] at hL2
      have HL2 := hid hL2
      have hmod : 0 ≤ (x * 256 + y) % m ∧ (x * 256 + y) % m < m := ⟨Int.emod_nonneg _ (by omega), Int.emod_lt_of_pos _ (by omega)⟩
      have HM := hid hmod
      clear hL2 hmod HL1
      go_wp2_with fail
      go_ret
      exact ⟨_, rfl, HM.out.1, fun _ => HM.out.2, HL2.out⟩
    · go_enter Tryd.func34, Tryd.ntmps34
      go_wp2_with fail
      refine HN0.out.mono ?_
      rintro e w1 ⟨x, rfl, hx0, hx1, hL1⟩
      have HL1 := hid (HW.out _ _ hL1 (by omega))
      have hmod : 0 ≤ x % m ∧ x % m < m := ⟨Int.emod_nonneg _ (by omega), Int.emod_lt_of_pos _ (by omega)⟩
      have HM := hid hmod
      clear hL1 hmod
      go_wp2_with fail
      go_ret
      exact ⟨_, rfl, HM.out.1, fun _ => HM.out.2, HL1.out⟩
set_option maxHeartbeats 1000000 in
set_option maxRecDepth 100000 in
theorem one_led (h : Led w0 w L) (i : Nat) (hi : L[i]? = some (tCur A n c g K)) (hb : Sees elU w0 w0.heap.size A n bs) (hbs : ∀ x ∈ bs, 0 ≤ x ∧ x ≤ 255) (hn : n ≤ 1048576) (hK : K + 1 ≤ 1099511627776) (m : Int) (hm : 0 ≤ m) (hm2 : m ≤ 1048576) :
    Calls Tryd.prog 35 #[.pointer (some ⟨g, 0, none⟩), .int .i64 m] w fun e w' => ∃ v : Bool, e = .returned (.bool v) ∧ Led w0 w' (L.set i (tCur A n c g (K + 2))) := by
  have HP := hid (pick_led h i hi hb hbs hn hK m hm hm2)
  clear h hb hbs
  go_enter Tryd.func35, Tryd.ntmps35
  go_wp2_with fail
  refine HP.out.mono ?_
  rintro e w1 ⟨x, rfl, hx0, hx1, hL1⟩
  have HL1 := hid hL1
  clear hL1 hx1
  go_wp2_with fail
  go_ret
  exact ⟨_, rfl, HL1.out⟩
set_option maxHeartbeats 1000000 in
set_option maxRecDepth 100000 in
theorem of_led {m cc : Nat} {X : Option Addr} {xs : List ByteArray} (h : Led w0 w L) (i : Nat) (hi : L[i]? = some (tCur A n c g K)) (hb : Sees elU w0 w0.heap.size A n bs) (hbs : ∀ x ∈ bs, 0 ≤ x ∧ x ≤ 255) (hn : n ≤ 1048576) (hK : K + 1 ≤ 1099511627776)
    (hX : ∀ w', Led w0 w' (L.set i (tCur A n c g (K + 2))) → Sees elStr w' w'.heap.size X m xs) (hm : 1 ≤ m) (hm2 : m ≤ 1048576) :
    Calls Tryd.prog 36 #[.pointer (some ⟨g, 0, none⟩), .slice X m cc] w fun e w' => ∃ x, x ∈ xs ∧ e = .returned (.string x) ∧ Led w0 w' (L.set i (tCur A n c g (K + 2))) := by
  have HP := hid (pick_led h i hi hb hbs hn hK (m : Int) (by omega) (by omega))
  have HX := hid hX
  clear h hb hbs hX
  go_enter Tryd.func36, Tryd.ntmps36
  go_wp2_with fail
  refine HP.out.mono ?_
  rintro e w1 ⟨v, rfl, hx0, hx1, hL1⟩
  have hx2 := hx1 (by omega)
  have hs := HX.out _ hL1
  have HL1 := hid hL1
  obtain ⟨k, rfl⟩ : ∃ k : Nat, v = (k : Int) := ⟨v.toNat, by omega⟩
  obtain ⟨x, hxk⟩ : ∃ x, xs[k]? = some x := ⟨xs[k]'(by rw [hs.len]; omega), List.getElem?_eq_getElem _⟩
  obtain ⟨b, o, rfl, _, hc⟩ := hs.at_ (k := k) (by omega)
  have hcx := hc k x hxk 0 _ rfl
  simp only [elStr, Nat.mul_one, Nat.add_zero] at hcx
  have HX2 := hid (List.mem_of_getElem? hxk)
  clear hL1 hx1 hc hs hxk HX
  go_wp2_with fail
  go_ret
  exact ⟨x, HX2.out, rfl, HL1.out⟩
end
end Go.Proofs.YtonndpcmadnpmaaDoor
/- One of some numbers, drawn. Conditions: as each states. -/
namespace Go.Proofs.YtonndpcmadnpmaaDoor
open Go.RowKit
theorem sees_ints {w : World} {g : Nat} {e : TypeId} (xs : List Int) (h : Blk w g e (xs.map fun x => Value.int .i64 x).toArray) : Sees elInt w w.heap.size (some ⟨g, 0, none⟩) xs.length xs := by
  refine ⟨rfl, .inr ⟨g, 0, rfl, h.lt, fun k x hx j u hu => ?_⟩⟩
  have hu' : [Value.int .i64 x][j]? = some u := hu
  match j, hu' with
  | 0, hu' =>
    simp at hu'; subst hu'
    have e : 0 + k * elInt.sz + 0 = k := by show 0 + k * 1 + 0 = k; omega
    rw [e, h.cell, List.getElem?_toArray, List.getElem?_map, hx]
    rfl
  | j + 1, hu' => simp at hu'
section
variable {w0 w : World} {L : List Thing} {A : Option Addr} {n c g K : Nat} {bs : List Int}
set_option maxHeartbeats 1000000 in
set_option maxRecDepth 100000 in
theorem among_led {m cc : Nat} {X : Option Addr} {xs : List Int} (h : Led w0 w L) (i : Nat) (hi : L[i]? = some (tCur A n c g K)) (hb : Sees elU w0 w0.heap.size A n bs) (hbs : ∀ x ∈ bs, 0 ≤ x ∧ x ≤ 255) (hn : n ≤ 1048576) (hK : K + 1 ≤ 1099511627776)
    (hX : ∀ w', Led w0 w' (L.set i (tCur A n c g (K + 2))) → Sees elInt w' w'.heap.size X m xs) (hm : 1 ≤ m) (hm2 : m ≤ 1048576) :
    Calls Tryd.prog 33 #[.pointer (some ⟨g, 0, none⟩), .slice X m cc] w fun e w' => ∃ x, x ∈ xs ∧ e = .returned (.int .i64 x) ∧ Led w0 w' (L.set i (tCur A n c g (K + 2))) := by
  have HP := hid (pick_led h i hi hb hbs hn hK (m : Int) (by omega) (by omega))
  have HX := hid hX
  clear h hb hbs hX
  go_enter Tryd.func33, Tryd.ntmps33
  go_wp2_with fail
  refine HP.out.mono ?_
  rintro e w1 ⟨v, rfl, hx0, hx1, hL1⟩
  have hx2 := hx1 (by omega)
  have hs := HX.out _ hL1
  have HL1 := hid hL1
  obtain ⟨k, rfl⟩ : ∃ k : Nat, v = (k : Int) := ⟨v.toNat, by omega⟩
  obtain ⟨x, hxk⟩ : ∃ x, xs[k]? = some x := ⟨xs[k]'(by rw [hs.len]; omega), List.getElem?_eq_getElem _⟩
  obtain ⟨b, o, rfl, _, hc⟩ := hs.at_ (k := k) (by omega)
  have hcx := hc k x hxk 0 _ rfl
  simp only [elInt, Nat.mul_one, Nat.add_zero] at hcx
  have HX2 := hid (List.mem_of_getElem? hxk)
  clear hL1 hx1 hc hs hxk HX
  go_wp2_with fail
  go_ret
  exact ⟨x, HX2.out, rfl, HL1.out⟩
/-- One of some numbers, of a block of their own. -/
theorem among_blk_led (xs : List Int) (h : Led w0 w L) (i : Nat) (hi : L[i]? = some (tCur A n c g K)) (hb : Sees elU w0 w0.heap.size A n bs) (hbs : ∀ x ∈ bs, 0 ≤ x ∧ x ≤ 255) (hn : n ≤ 1048576) (hK : K + 1 ≤ 1099511627776) (hm : 1 ≤ xs.length) (hm2 : xs.length ≤ 1048576) (cc b : Nat) (hb2 : b = w.heap.size) (e : TypeId) :
    Calls Tryd.prog 33 #[.pointer (some ⟨g, 0, none⟩), .slice (some ⟨b, 0, none⟩) xs.length cc] (w.alloc (.cells (xs.map fun x => Value.int .i64 x).toArray e)) fun e w' => ∃ x, x ∈ xs ∧ e = .returned (.int .i64 x) ∧ Led w0 w' (L.set i (tCur A n c g (K + 2))) := by
  have h1 := h.blk_ b hb2 e (xs.map fun x => Value.int .i64 x).toArray
  refine (among_led (xs := xs) (cc := cc) h1 (i + 1) (by simpa using hi) hb hbs hn hK (fun w' hl => sees_ints xs (hl.get 0 rfl)) hm hm2).mono ?_
  rintro e w' ⟨x, hx, he, hl⟩
  exact ⟨x, hx, he, hl.drop 1⟩
end
end Go.Proofs.YtonndpcmadnpmaaDoor
/- The drawn strings of the laws: any1, DrawSplitString, DrawJoinStrings, DrawLessString. Conditions: at most 65536 bytes to draw from. -/
namespace Go.Proofs.YtonndpcmadnpmaaDoor
open Go.RowKit
theorem sees_strs {w : World} {g : Nat} {e : TypeId} (xs : List ByteArray) (h : Blk w g e (xs.map Value.string).toArray) : Sees elStr w w.heap.size (some ⟨g, 0, none⟩) xs.length xs := by
  refine ⟨rfl, .inr ⟨g, 0, rfl, h.lt, fun k x hx j u hu => ?_⟩⟩
  have hu' : [Value.string x][j]? = some u := hu
  match j, hu' with
  | 0, hu' =>
    simp at hu'; subst hu'
    have e : 0 + k * elStr.sz + 0 = k := by show 0 + k * 1 + 0 = k; omega
    rw [e, h.cell, List.getElem?_toArray, List.getElem?_map, hx]
    rfl
  | j + 1, hu' => simp at hu'
section
variable {w0 w : World} {L : List Thing} {A : Option Addr} {n c g K : Nat} {bs : List Int}
theorem Led.cur (h : Led w0 w L) (g : Nat) (hg : g = w.heap.size) (A : Option Addr) (n c : Nat) : Led w0 (w.alloc (.cells #[.slice A n c, .int .i64 0, .int .u64 0] 51)) (tCur A n c g 0 :: L) := by
  subst hg
  exact h.put (bl_alloc (Below.refl _ _) _) _ (fun b e => by rw [e]; exact Nat.le_refl _) ⟨0, 0, Blk.new _ _ _, Nat.le_refl _, by decide, by decide⟩
/-- One of some texts, of a block of their own. -/
theorem of_blk_led (xs : List ByteArray) (h : Led w0 w L) (i : Nat) (hi : L[i]? = some (tCur A n c g K)) (hb : Sees elU w0 w0.heap.size A n bs) (hbs : ∀ x ∈ bs, 0 ≤ x ∧ x ≤ 255) (hn : n ≤ 1048576) (hK : K + 1 ≤ 1099511627776) (hm : 1 ≤ xs.length) (hm2 : xs.length ≤ 1048576) (cc b : Nat) (hb2 : b = w.heap.size) (e : TypeId) :
    Calls Tryd.prog 36 #[.pointer (some ⟨g, 0, none⟩), .slice (some ⟨b, 0, none⟩) xs.length cc] (w.alloc (.cells (xs.map Value.string).toArray e)) fun e w' => ∃ x, x ∈ xs ∧ e = .returned (.string x) ∧ Led w0 w' (L.set i (tCur A n c g (K + 2))) := by
  have h1 := h.blk_ b hb2 e (xs.map Value.string).toArray
  refine (of_led (xs := xs) (cc := cc) h1 (i + 1) (by simpa using hi) hb hbs hn hK (fun w' hl => sees_strs xs (hl.get 0 rfl)) hm hm2).mono ?_
  rintro e w' ⟨x, hx, he, hl⟩
  exact ⟨x, hx, he, hl.drop 1⟩
def any1L : List ByteArray := [⟨#[]⟩, ⟨#[97]⟩, ⟨#[97, 44, 98]⟩, ⟨#[115, 111, 109, 101, 32, 119, 111, 114, 100, 115]⟩, ⟨#[120, 35, 121]⟩, ⟨#[45, 49, 50]⟩, ⟨#[0, 255]⟩, ⟨#[44, 44]⟩, ⟨#[48]⟩]
set_option maxHeartbeats 1000000 in
set_option maxRecDepth 100000 in
theorem any1_led (h : Led w0 w L) (i : Nat) (hi : L[i]? = some (tCur A n c g K)) (hb : Sees elU w0 w0.heap.size A n bs) (hbs : ∀ x ∈ bs, 0 ≤ x ∧ x ≤ 255) (hn : n ≤ 1048576) (hK : K + 1 ≤ 1099511627776) :
    Calls Tryd.prog 37 #[.pointer (some ⟨g, 0, none⟩)] w fun e w' => ∃ x : ByteArray, x.size ≤ 10 ∧ e = .returned (.string x) ∧ Led w0 w' (L.set i (tCur A n c g (K + 2))) := by
  have HP := hid (of_blk_led any1L h i hi hb hbs hn hK (by decide) (by decide) 9 _ rfl 9)
  clear h hb hbs
  go_enter Tryd.func37, Tryd.ntmps37
  go_wp2_with fail
  refine Calls.mono HP.out ?_
  rintro e w1 ⟨x, hx, rfl, hL1⟩
  have HL1 := hid hL1
  have hxs : x.size ≤ 10 := by
    have : ∀ x ∈ any1L, x.size ≤ 10 := by decide
    exact this x hx
  clear hL1 hx
  go_wp2_with fail
  go_ret
  exact ⟨x, hxs, rfl, HL1.out⟩
theorem u8_info : (Tryd.prog.info? 5).map (fun i => (i.zero, i.size, i.bytes)) = some (some (.int .u8 0), 1, 1) := by kernel_rfl
end
end Go.Proofs.YtonndpcmadnpmaaDoor
/- Numbers and their texts, in plain Lean: a text is a number's if it is just what the number is written as. Conditions: none. -/
namespace Go.Proofs.YtonndpcmadnpmaaDoor
open Go.RowKit
theorem ba_eq {a b : ByteArray} (h : a.data.toList = b.data.toList) : a = b := by
  cases a; cases b
  congr 1
  exact Array.toList_inj.1 h
theorem dec_one {u : Nat} (h : u < 10) : Lib.decDigits u = [UInt8.ofNat (48 + u)] := by rw [Lib.decDigits, dif_pos h]
theorem dec_more {u : Nat} (h : ¬ u < 10) : Lib.decDigits u = Lib.decDigits (u / 10) ++ [UInt8.ofNat (48 + u % 10)] := by rw [Lib.decDigits, dif_neg h]
theorem dig_val_fin : ∀ d : Fin 10, Lib.digitVal (UInt8.ofNat (48 + d.val)) = some d.val := by decide +kernel
theorem dig_val {d : Nat} (h : d < 10) : Lib.digitVal (UInt8.ofNat (48 + d)) = some d := dig_val_fin ⟨d, h⟩
theorem decFrom_snoc : ∀ (l : List UInt8) (acc m d : Nat) (b : UInt8), Lib.decFrom acc l = some m → Lib.digitVal b = some d → Lib.decFrom acc (l ++ [b]) = some (m * 10 + d) := by
  intro l
  induction l with
  | nil =>
    intro acc m d b h hd
    simp only [Lib.decFrom, Option.some.injEq] at h
    subst h
    simp [Lib.decFrom, hd]
  | cons a l ih =>
    intro acc m d b h hd
    simp only [List.cons_append, Lib.decFrom] at h ⊢
    cases ha : Lib.digitVal a with
    | none => simp [ha] at h
    | some e =>
      simp only [ha] at h ⊢
      exact ih _ _ _ _ h hd
theorem decFrom_digits : ∀ u, Lib.decFrom 0 (Lib.decDigits u) = some u := by
  intro u
  induction u using Nat.strongRecOn with
  | ind u ih =>
    by_cases h : u < 10
    · rw [dec_one h]
      have hd := dig_val h
      generalize UInt8.ofNat (48 + u) = b at hd
      simp [Lib.decFrom, hd]
    · rw [dec_more h, decFrom_snoc _ _ _ _ _ (ih (u / 10) (by omega)) (dig_val (Nat.mod_lt _ (by decide)))]
      congr 1
      omega
theorem dec_ne (u : Nat) : Lib.decDigits u ≠ [] := by
  by_cases h : u < 10
  · rw [dec_one h]; simp
  · rw [dec_more h]; simp
theorem dec_dig {u : Nat} {b : UInt8} (h : b ∈ Lib.decDigits u) : 48 ≤ b.toNat ∧ b.toNat ≤ 57 := by
  obtain ⟨k, hk⟩ := List.getElem?_of_mem h
  obtain ⟨d, hd⟩ := Lib.digit_of_decFrom _ _ _ (decFrom_digits u) k b hk
  exact ⟨(Lib.digitVal_eq hd).1, (Lib.digitVal_eq hd).2.1⟩
theorem dec_head (u : Nat) : ∃ b r, Lib.decDigits u = b :: r ∧ 48 ≤ b.toNat ∧ b.toNat ≤ 57 := by
  cases h : Lib.decDigits u with
  | nil => exact absurd h (dec_ne u)
  | cons b r => exact ⟨b, r, rfl, dec_dig (u := u) (by rw [h]; exact List.mem_cons_self)⟩
theorem dec_len : ∀ (k u : Nat), u < 10 ^ (k + 1) → (Lib.decDigits u).length ≤ k + 1 := by
  intro k
  induction k with
  | zero => intro u h; rw [dec_one (by simpa using h)]; simp
  | succ k ih =>
    intro u h
    by_cases h1 : u < 10
    · rw [dec_one h1]; simp
    · rw [dec_more h1, List.length_append]
      have := ih (u / 10) (by rw [Nat.pow_succ] at h; omega)
      simp; omega
theorem dec_len_pos (u : Nat) : 1 ≤ (Lib.decDigits u).length := by
  obtain ⟨b, r, h, _⟩ := dec_head u
  rw [h]; simp
/-- A number's text. -/
def numS (n : Int) : ByteArray := ⟨(Lib.itoa n).toArray⟩
theorem numS_list (n : Int) : (numS n).data.toList = Lib.itoa n := by unfold numS; simp
theorem itoa_neg_ {n : Int} (h : n < 0) : Lib.itoa n = 45 :: Lib.decDigits n.natAbs := by unfold Lib.itoa; rw [if_pos h]
theorem itoa_pos_ {n : Int} (h : ¬ n < 0) : Lib.itoa n = Lib.decDigits n.natAbs := by unfold Lib.itoa; rw [if_neg h]; congr 1; omega
theorem itoa_len {n : Int} (h : -999999 ≤ n ∧ n ≤ 999999) : 1 ≤ (Lib.itoa n).length ∧ (Lib.itoa n).length ≤ 7 := by
  have h1 := dec_len 5 n.natAbs (by omega)
  have h2 := dec_len_pos n.natAbs
  by_cases hn : n < 0
  · rw [itoa_neg_ hn]; simp; omega
  · rw [itoa_pos_ hn]; omega
theorem atoi_itoa (n : Int) : Lib.atoi (Lib.itoa n) = some n := by
  obtain ⟨b, r, h, hb1, hb2⟩ := dec_head n.natAbs
  have hd := decFrom_digits n.natAbs
  have hdn : Lib.decNat (Lib.decDigits n.natAbs) = some n.natAbs := by
    unfold Lib.decNat
    rw [hd, h]; rfl
  by_cases hn : n < 0
  · rw [itoa_neg_ hn]
    have e0 : Lib.atoi (45 :: Lib.decDigits n.natAbs) = (Lib.decNat (Lib.decDigits n.natAbs)).map fun (m : Nat) => -(m : Int) := rfl
    rw [e0, hdn]
    simp; omega
  · rw [itoa_pos_ hn]
    have e1 : (b == 45) = false := by
      rw [beq_eq_false_iff_ne]; intro e; rw [e] at hb1; exact absurd hb1 (by decide)
    have e2 : (b == 43) = false := by
      rw [beq_eq_false_iff_ne]; intro e; rw [e] at hb1; exact absurd hb1 (by decide)
    rw [h] at hdn ⊢
    have e0 : Lib.atoi (b :: r) = if b == 45 then (Lib.decNat r).map (fun (m : Nat) => -(m : Int)) else if b == 43 then (Lib.decNat r).map (fun (m : Nat) => (m : Int)) else (Lib.decNat (b :: r)).map fun (m : Nat) => (m : Int) := rfl
    rw [e0, e1, e2, hdn]
    simp; omega
/-- The number whose text this is. -/
def rdN (s : ByteArray) : Option Int :=
  match Lib.atoi s.data.toList with
  | some n => if (-999999 ≤ n ∧ n ≤ 999999) ∧ numS n = s then some n else none
  | none => none
theorem numS_eq {n : Int} {s : ByteArray} : numS n = s ↔ Lib.itoa n = s.data.toList := by
  constructor
  · intro h; rw [← h, numS_list]
  · intro h; unfold numS; rw [h]
theorem rdN_iff {s : ByteArray} {n : Int} : rdN s = some n ↔ (-999999 ≤ n ∧ n ≤ 999999) ∧ numS n = s := by
  constructor
  · intro h
    unfold rdN at h
    split at h
    · rename_i m hm
      split at h
      · rename_i h2
        injection h with h
        subst h
        exact h2
      · cases h
    · cases h
  · rintro ⟨h1, h2⟩
    unfold rdN
    have : Lib.atoi s.data.toList = some n := by rw [← numS_eq.1 h2]; exact atoi_itoa n
    rw [this]
    simp only
    rw [if_pos ⟨h1, h2⟩]
theorem rdN_none {s : ByteArray} (h : ∀ n, (-999999 ≤ n ∧ n ≤ 999999) → numS n = s → False) : rdN s = none := by
  cases g : rdN s with
  | none => rfl
  | some n => exact absurd (rdN_iff.1 g) (fun ⟨a, b⟩ => h n a b)
def rdV (s : ByteArray) : Int := (rdN s).getD 0
def rdK (s : ByteArray) : Bool := (rdN s).isSome
theorem rdVK_some {s : ByteArray} {n : Int} (h : rdN s = some n) : rdV s = n ∧ rdK s = true := by unfold rdV rdK; rw [h]; exact ⟨rfl, rfl⟩
theorem rdVK_none {s : ByteArray} (h : rdN s = none) : rdV s = 0 ∧ rdK s = false := by unfold rdV rdK; rw [h]; exact ⟨rfl, rfl⟩
theorem numS_size {n : Int} (h : -999999 ≤ n ∧ n ≤ 999999) : 1 ≤ (numS n).size ∧ (numS n).size ≤ 7 := by
  have h1 := itoa_len h
  have : (numS n).size = (Lib.itoa n).length := by unfold numS; simp [ByteArray.size]
  rw [this]; exact h1
/-! ### The reference's reading: a sign, then digits -/
theorem rd_size {s : ByteArray} {n : Int} (h : rdN s = some n) : 1 ≤ s.size ∧ s.size ≤ 7 := by
  obtain ⟨h1, h2⟩ := rdN_iff.1 h
  rw [← h2]; exact numS_size h1
/-- A text of a number: behind the sign stand the digits of its size. -/
theorem canon_neg {s : ByteArray} {n : Int} (h : numS n = s) (hs : s.data.toList[0]? = some 45) : n < 0 ∧ s.data.toList.drop 1 = Lib.decDigits n.natAbs := by
  have h1 := numS_eq.1 h
  by_cases hn : n < 0
  · rw [itoa_neg_ hn] at h1
    rw [← h1]; exact ⟨hn, rfl⟩
  · rw [itoa_pos_ hn] at h1
    obtain ⟨b, r, h2, hb1, _⟩ := dec_head n.natAbs
    rw [← h1, h2] at hs
    simp at hs
    rw [hs] at hb1; exact absurd hb1 (by decide)
theorem canon_pos {s : ByteArray} {n : Int} (h : numS n = s) (hs : ¬ s.data.toList[0]? = some 45) : ¬ n < 0 ∧ s.data.toList = Lib.decDigits n.natAbs := by
  have h1 := numS_eq.1 h
  by_cases hn : n < 0
  · rw [itoa_neg_ hn] at h1
    rw [← h1] at hs; exact absurd rfl hs
  · rw [itoa_pos_ hn] at h1
    exact ⟨hn, h1.symm⟩
/-- The digits' part of a text. -/
def digT (s : ByteArray) : ByteArray := if 1 < s.size ∧ s.data.toList[0]? = some 45 then s.extract 1 s.size else s
theorem digT_neg {s : ByteArray} (h : 1 < s.size) (h0 : s.data.toList[0]? = some 45) : digT s = s.extract 1 s.size := by unfold digT; rw [if_pos ⟨h, h0⟩]
theorem digT_pos {s : ByteArray} (h : ¬ (1 < s.size ∧ s.data.toList[0]? = some 45)) : digT s = s := by unfold digT; rw [if_neg h]
theorem extract1 (s : ByteArray) : (s.extract 1 s.size).data.toList = s.data.toList.drop 1 := by
  rw [ByteArray.data_extract, Array.toList_extract]
  simp
  rw [List.take_of_length_le (by simp)]
theorem digT_canon {s : ByteArray} {n : Int} (h : numS n = s) : (digT s).data.toList = Lib.decDigits n.natAbs ∧ (n < 0 ↔ (digT s).size < s.size) := by
  by_cases h0 : s.data.toList[0]? = some 45
  · obtain ⟨h1, h2⟩ := canon_neg h h0
    have hl : 1 < s.size := by
      have := dec_len_pos n.natAbs
      rw [← h2, List.length_drop] at this
      simp at this; omega
    rw [digT_neg hl h0]
    refine ⟨by rw [extract1]; exact h2, ?_⟩
    have : (s.extract 1 s.size).size = s.size - 1 := by rw [ByteArray.size_extract]; omega
    rw [this]
    constructor
    · intro _; omega
    · intro _; exact h1
  · obtain ⟨h1, h2⟩ := canon_pos h h0
    rw [digT_pos (fun h => h0 h.2)]
    refine ⟨h2, ?_⟩
    constructor
    · intro h; exact absurd h h1
    · intro h; omega
theorem rd_len {s : ByteArray} (h : ¬ (1 ≤ (digT s).size ∧ (digT s).size ≤ 6)) : rdN s = none := by
  refine rdN_none fun n h1 h2 => h ?_
  have h3 := (digT_canon h2).1
  have h4 := dec_len 5 n.natAbs (by omega)
  have h5 := dec_len_pos n.natAbs
  rw [← h3] at h4 h5
  simp at h4 h5
  exact ⟨h5, h4⟩
theorem rd_bad {s : ByteArray} {k : Nat} {b : UInt8} (h : (digT s).data.toList[k]? = some b) (hb : b.toNat < 48 ∨ 57 < b.toNat) : rdN s = none := by
  refine rdN_none fun n h1 h2 => ?_
  have h3 := (digT_canon h2).1
  rw [h3] at h
  have := dec_dig (List.mem_of_getElem? h)
  omega
/-- What the reference reads before it holds the text against the number's. -/
def rdM (s : ByteArray) (m : Nat) : Int := if (digT s).size < s.size then -(m : Int) else (m : Int)
theorem rd_end {s : ByteArray} {m : Nat} (hl : (digT s).size ≤ 6) (h : Lib.decFrom 0 (digT s).data.toList = some m) : (-999999 ≤ rdM s m ∧ rdM s m ≤ 999999) ∧ (numS (rdM s m) = s → rdN s = some (rdM s m)) ∧ (¬ numS (rdM s m) = s → rdN s = none) := by
  have h1 := Lib.decFrom_lt _ _ _ h
  have h2 : m < 10 ^ 6 := by
    refine Nat.lt_of_lt_of_le h1 ?_
    rw [Nat.zero_add, Nat.one_mul]
    exact Nat.pow_le_pow_right (by decide) (by simpa using hl)
  have hb : -999999 ≤ rdM s m ∧ rdM s m ≤ 999999 := by unfold rdM; split <;> omega
  refine ⟨hb, fun h3 => rdN_iff.2 ⟨hb, h3⟩, fun h3 => rdN_none fun n h4 h5 => h3 ?_⟩
  obtain ⟨h6, h7⟩ := digT_canon h5
  rw [h6, decFrom_digits] at h
  injection h with h
  have : rdM s m = n := by
    unfold rdM
    split
    · rename_i h8; have := h7.2 h8; omega
    · rename_i h8; have : ¬ n < 0 := fun h => h8 (h7.1 h); omega
  rw [this]; exact h5
end Go.Proofs.YtonndpcmadnpmaaDoor
/- The reference's text of a number, walked. Conditions: below 10^10. -/
namespace Go.Proofs.YtonndpcmadnpmaaDoor
open Go.RowKit
/-- One digit. -/
def dgS (d : Nat) : ByteArray := ⟨#[UInt8.ofNat (48 + d)]⟩
theorem numS_one {n : Nat} (h : n < 10) : numS (n : Int) = dgS n := by
  unfold numS
  rw [itoa_pos_ (by omega), Int.natAbs_natCast, dec_one h]
  rfl
theorem numS_more {n : Nat} (h : ¬ n < 10) : numS (n : Int) = numS ((n / 10 : Nat) : Int) ++ dgS (n % 10) := by
  apply ba_eq
  rw [numS_list, Joins.data_append, numS_list, itoa_pos_ (by omega), itoa_pos_ (by omega), Int.natAbs_natCast, Int.natAbs_natCast, dec_more h]
  rfl
theorem numS_neg {n : Nat} (h : 0 < n) : numS (-(n : Int)) = ⟨#[45]⟩ ++ numS (n : Int) := by
  apply ba_eq
  rw [Joins.data_append, numS_list, numS_list, itoa_neg_ (n := -(n : Int)) (by omega), itoa_pos_ (n := (n : Int)) (by omega), Int.natAbs_neg]
  rfl
theorem numS_le {n : Nat} (h : n < 10 ^ 11) : (numS (n : Int)).size ≤ 11 := by
  have h1 := dec_len 10 n h
  have : (numS (n : Int)).size = (Lib.itoa (n : Int)).length := by unfold numS; simp [ByteArray.size]
  rw [this, itoa_pos_ (by omega), Int.natAbs_natCast]; exact h1
theorem dgS_size (d : Nat) : (dgS d).size = 1 := rfl
set_option maxRecDepth 100000 in
theorem dig_slice (d : Nat) (h : d < 10) (w : World) : (Instr.slice 9 (.string ⟨#[48, 49, 50, 51, 52, 53, 54, 55, 56, 57]⟩) (some (.int .i64 (d : Int))) (some (.int .i64 ((d : Int) + 1))) none).run Tryd.prog w = .ok (.string (dgS d)) w := by
  match d, h with
  | 0, _ => rfl
  | 1, _ => rfl
  | 2, _ => rfl
  | 3, _ => rfl
  | 4, _ => rfl
  | 5, _ => rfl
  | 6, _ => rfl
  | 7, _ => rfl
  | 8, _ => rfl
  | 9, _ => rfl
  | d + 10, h => omega
set_option maxHeartbeats 1000000 in
set_option maxRecDepth 100000 in
theorem l1NumP_any : ∀ (k n : Nat) (w : World), n < 10 ^ (k + 1) → k ≤ 9 →
    Calls Tryd.prog 22 #[.int .i64 (n : Int)] w fun e w' => e = .returned (.string (numS (n : Int))) ∧ Below w.heap.size w w' := by
  intro k
  induction k with
  | zero =>
    intro n w hn _
    have hn2 : n < 10 := by simpa using hn
    have HN := hid (numS_one hn2)
    have hsl := fun w => dig_slice n hn2 w
    have i1 : (n : Int) < 10 := by omega
    have i2 : ¬ (n : Int) < 0 := by omega
    clear hn
    go_enter Tryd.func22, Tryd.ntmps22
    go_wp2_with fail
    go_ret
    exact ⟨by rw [HN.out]; rfl, Below.refl _ _⟩
  | succ k ih =>
    intro n w hn hk
    by_cases h10 : n < 10
    · exact (ih n w (Nat.lt_of_lt_of_le h10 (by rw [Nat.pow_succ]; exact Nat.le_mul_of_pos_left _ (Nat.pow_pos (by decide)))) (by omega))
    · have i1 : ¬ (n : Int) < 10 := by omega
      have i2 : ¬ (n : Int) < 0 := by omega
      obtain ⟨q, hq⟩ : ∃ q, q = n / 10 := ⟨_, rfl⟩
      obtain ⟨d, hd⟩ : ∃ d, d = n % 10 := ⟨_, rfl⟩
      have HN : Hid (numS (n : Int) = numS (q : Int) ++ dgS d) := by unfold Hid; rw [hq, hd]; exact numS_more h10
      have hb : n < 10 ^ 11 := Nat.lt_of_lt_of_le hn (Nat.pow_le_pow_right (by decide) (by omega))
      have iw1 : IntKind.i64.wrap ((n : Int) / 10) = (n : Int) / 10 := IntWalk.i64_in _ (by omega)
      have e1 : (n : Int) / 10 = (q : Int) := by omega
      have e2 : (n : Int).tmod 10 = (d : Int) := by rw [Int.tmod_eq_emod_of_nonneg (by omega)]; omega
      have iw2 : IntKind.i64.wrap ((n : Int).tmod 10 + 1) = (n : Int).tmod 10 + 1 := IntWalk.i64_in _ (by omega)
      have HI : Hid (∀ w', Calls Tryd.prog 22 #[.int .i64 ((n : Int) / 10)] w' fun e w2 => e = .returned (.string (numS (q : Int))) ∧ Below w'.heap.size w' w2) := fun w' => by rw [e1]; exact ih q w' (by rw [Nat.pow_succ] at hn; omega) (by omega)
      have hsl := fun w => dig_slice d (by omega) w
      rw [← e2] at hsl
      have hs1 := numS_le (n := q) (by omega)
      have hs2 := dgS_size d
      clear ih hn e1 e2 hb hq hd
      go_enter Tryd.func22, Tryd.ntmps22
      go_wp2_with fail
      refine region_cls (by kernel_rfl) (by kernel_rfl) ?_
      repeat (first
        | ((with_reducible refine quiet_pos ?_ (fun K hK => ?_))
           · rfl
           apply Exists.intro
           refine ⟨fun w' hw' => ?_, ?_⟩
           · go_simp
             first
               | with_reducible rfl
               | go_at_call 22; with_reducible exact hw'.call (HI.out _)
               | (rw [if_neg (by omega)]; exact ⟨rfl, rfl⟩)
           simp only [Act.put, List.setIfInBounds_toArray, List.set_cons_zero, List.set_cons_succ]
           refine hK _ ?_; clear hK K)
        | ((with_reducible refine quiet_neg ?_ (fun K hK => ?_))
           · rfl
           simp only [Act.put, List.setIfInBounds_toArray, List.set_cons_zero, List.set_cons_succ]
           refine hK _ ?_; clear hK K))
      with_reducible refine wpQuiet_nil ?_
      intro wz hwz'
      go_wp2
      go_ret
      exact ⟨by rw [HN.out]; rfl, hwz'⟩
theorem l1Num_any (n : Int) (w : World) (hn : -1000000 ≤ n ∧ n ≤ 1000000) : Calls Tryd.prog 22 #[.int .i64 n] w fun e w' => e = .returned (.string (numS n)) ∧ Below w.heap.size w w' := by
  by_cases h : n < 0
  · obtain ⟨m, rfl⟩ : ∃ m : Nat, n = -(m : Int) := ⟨n.natAbs, by omega⟩
    have HI := hid (fun w' => l1NumP_any 6 m w' (by omega) (by decide))
    have HN := hid (numS_neg (n := m) (by omega))
    have hs1 := numS_le (n := m) (by omega)
    have i1 : -(m : Int) < 0 := h
    go_enter Tryd.func22, Tryd.ntmps22
    go_wp2_with fail
    refine (HI.out _).mono ?_
    rintro e w1 ⟨rfl, hb⟩
    go_wp2_with fail
    go_ret
    exact ⟨by rw [HN.out]; rfl, hb⟩
  · obtain ⟨m, rfl⟩ : ∃ m : Nat, n = (m : Int) := ⟨n.toNat, by omega⟩
    exact l1NumP_any 6 m w (by omega) (by decide)
end Go.Proofs.YtonndpcmadnpmaaDoor
/- What FnStrings draws: a number, a number's text, a string to seal. Conditions: at most 65536 bytes to draw from. -/
namespace Go.Proofs.YtonndpcmadnpmaaDoor
open Go.RowKit
section
variable {w0 w : World} {L : List Thing} {A : Option Addr} {n c g K : Nat} {bs : List Int}
set_option maxHeartbeats 1000000 in
set_option maxRecDepth 100000 in
theorem drawFmt_any (w : World) (hb : Sees elU w w.heap.size A n bs) (hbs : ∀ x ∈ bs, 0 ≤ x ∧ x ≤ 255) (hn : n ≤ 1048576) :
    Calls Tryd.prog 17 #[.slice A n c] w fun e w' => ∃ v : Int, e = .returned (.int .i64 v) ∧ -1000000 ≤ v ∧ v ≤ 1000000 ∧ Below w.heap.size w w' := by
  have HC := hid ((Led.nil w).cur w.heap.size rfl A n c)
  have HB := hid hb
  have HBS := hid hbs
  clear hb hbs
  go_enter Tryd.func17, Tryd.ntmps17
  go_wp2_with fail
  refine (pick_led HC.out 0 rfl HB.out HBS.out hn (by decide) 1000 (by decide) (by decide)).mono ?_
  rintro e w1 ⟨p, rfl, hp0, hp1, h1⟩
  have hp2 := hp1 (by decide)
  have H1 := hid h1
  have HP := hid (among_blk_led [0, 1, -1, 10, 999999, -999999, 1000000, -1000000, p - 500] H1.out 0 rfl HB.out HBS.out hn (by decide) (by simp) (by simp) 9 _ rfl 3)
  clear h1 hp1
  go_wp2_with fail
  refine Calls.mono HP.out ?_
  rintro e w2 ⟨y, hy, rfl, h2⟩
  have H2 := hid h2
  have hys : -1000000 ≤ y ∧ y ≤ 1000000 := by
    simp only [List.mem_cons, List.not_mem_nil, or_false] at hy
    omega
  clear h2 hy HP
  go_wp2_with fail
  go_ret
  exact ⟨y, rfl, hys.1, hys.2, H2.out.bl⟩
def parL : List ByteArray := [⟨#[]⟩, ⟨#[45]⟩, ⟨#[45, 48]⟩, ⟨#[48, 48]⟩, ⟨#[48, 49]⟩, ⟨#[45, 45, 49]⟩, ⟨#[49, 120]⟩, ⟨#[57, 57, 57, 57, 57, 57]⟩, ⟨#[49, 48, 48, 48, 48, 48, 48]⟩, ⟨#[45, 57, 57, 57, 57, 57, 57]⟩, ⟨#[49, 56, 52, 52, 54, 55, 52, 52, 48, 55, 51, 55, 48, 57, 53, 53, 49, 54, 49, 55]⟩]
set_option maxHeartbeats 1000000 in
set_option maxRecDepth 100000 in
theorem drawPar_any (w : World) (hb : Sees elU w w.heap.size A n bs) (hbs : ∀ x ∈ bs, 0 ≤ x ∧ x ≤ 255) (hn : n ≤ 1048576) :
    Calls Tryd.prog 18 #[.slice A n c] w fun e w' => ∃ v : ByteArray, e = .returned (.string v) ∧ v.size ≤ 1048576 ∧ Below w.heap.size w w' := by
  have HC := hid ((Led.nil w).cur w.heap.size rfl A n c)
  have HB := hid hb
  have HBS := hid hbs
  clear hb hbs
  go_enter Tryd.func18, Tryd.ntmps18
  go_wp2_with fail
  refine (one_led HC.out 0 rfl HB.out HBS.out hn (by decide) 2 (by decide) (by decide)).mono ?_
  rintro e w1 ⟨t, rfl, h1⟩
  have H1 := hid h1
  clear h1
  cases t
  · go_wp2_with fail
    refine (pick_led H1.out 0 rfl HB.out HBS.out hn (by decide) 2000 (by decide) (by decide)).mono ?_
    rintro e w2 ⟨p, rfl, hp0, hp1, h2⟩
    have hp2 := hp1 (by decide)
    have H2 := hid h2
    clear h2 hp1
    go_wp2_with fail
    refine (l1Num_any (p - 1000) _ (by omega)).mono ?_
    rintro e w3 ⟨rfl, hb3⟩
    have H3 := hid (bl_then H2.out.bl hb3)
    have hz := (numS_size (n := p - 1000) (by omega)).2
    clear hb3
    go_wp2_with fail
    go_ret
    exact ⟨_, rfl, by omega, H3.out⟩
  · have HP := hid (of_blk_led parL H1.out 0 rfl HB.out HBS.out hn (by decide) (by decide) (by decide) 11 _ rfl 9)
    go_wp2_with fail
    refine Calls.mono HP.out ?_
    rintro e w2 ⟨y, hy, rfl, h2⟩
    have H2 := hid h2
    have hys : y.size ≤ 20 := by
      have : ∀ y ∈ parL, y.size ≤ 20 := by decide
      exact this y hy
    clear h2 hy HP
    go_wp2_with fail
    go_ret
    exact ⟨y, rfl, by omega, H2.out.bl⟩
set_option maxHeartbeats 1000000 in
set_option maxRecDepth 100000 in
theorem drawApp_any (w : World) (hb : Sees elU w w.heap.size A n bs) (hbs : ∀ x ∈ bs, 0 ≤ x ∧ x ≤ 255) (hn : n ≤ 1048576) :
    Calls Tryd.prog 19 #[.slice A n c] w fun e w' => ∃ v : ByteArray, e = .returned (.string v) ∧ v.size ≤ 1048576 ∧ Below w.heap.size w w' := by
  have HC := hid ((Led.nil w).cur w.heap.size rfl A n c)
  have HB := hid hb
  have HBS := hid hbs
  clear hb hbs
  go_enter Tryd.func19, Tryd.ntmps19
  go_wp2_with fail
  refine (one_led HC.out 0 rfl HB.out HBS.out hn (by decide) 20 (by decide) (by decide)).mono ?_
  rintro e w1 ⟨t, rfl, h1⟩
  have H1 := hid h1
  clear h1
  cases t
  · go_wp2_with fail
    refine (any1_led H1.out 0 rfl HB.out HBS.out hn (by decide)).mono ?_
    rintro e w2 ⟨x, hx, rfl, h2⟩
    have H2 := hid h2
    clear h2
    go_wp2_with fail
    go_ret
    exact ⟨x, rfl, by omega, H2.out.bl⟩
  · go_wp2_with fail
    refine (pick_led H1.out 0 rfl HB.out HBS.out hn (by decide) 10 (by decide) (by decide)).mono ?_
    rintro e w3 ⟨p, rfl, hp0, hp1, h3⟩
    have hp2 := hp1 (by decide)
    obtain ⟨q, hq⟩ : ∃ q : Nat, 3990 + p = (q : Int) := ⟨(3990 + p).toNat, by omega⟩
    have hq2 : q ≤ 4009 := by omega
    obtain ⟨j0, hj, hy0, hy1, hy2⟩ := info_parts u8_info
    have hmk := fun W => make_n (P := Tryd.prog) Tryd.underlying29 hj hy0 (n := q) (by rw [hy2]; omega) (by omega) W
    rw [hy1] at hmk
    have H3 := hid (Led.blk_ h3 w3.heap.size rfl 5 (madeCells #[.int .u8 0] q))
    have hcv := run_convert_bytes_back (P := Tryd.prog) (w3.alloc (.cells (madeCells #[.int .u8 0] q) 5)) 29 9 5 ⟨w3.heap.size, 0, none⟩ q (List.replicate q 0) Tryd.underlying29 Tryd.underlying5 Tryd.underlying9 (fun j hj => by
      have hjq : j < q := by simpa using hj
      have hb : Blk (w3.alloc (.cells (madeCells #[.int .u8 0] q) 5)) w3.heap.size 5 (madeCells #[.int .u8 0] q) := Blk.new _ _ _
      have e : (⟨w3.heap.size, 0, none⟩ : Addr).add j = ⟨w3.heap.size, j, none⟩ := by simp [Addr.add]; intro h; exact h.symm
      rw [e, hb.cell, List.getElem_replicate]
      simp [madeCells, hjq, Nat.mod_one])
    rw [List.length_replicate] at hcv
    obtain ⟨Z, hZ⟩ : ∃ Z : ByteArray, Z = ⟨(List.replicate q (0 : UInt8)).toArray⟩ := ⟨_, rfl⟩
    rw [← hZ] at hcv
    have hZs : Z.size ≤ 4009 := by rw [hZ]; show (List.replicate q (0 : UInt8)).toArray.size ≤ 4009; simp; exact hq2
    clear h3 hp1 hj hy0 hy1 hy2 hZ
    go_wp2_with fail
    go_ret
    exact ⟨Z, rfl, by omega, H3.out.bl⟩
/-- A byte of the code, or a number of the place. -/
def vatI (bs : List Int) (n i : Nat) : Int := if i < n then bs.getD i 0 else (((i * 7 + n) % 256 : Nat) : Int)
theorem vatI_bd {i : Nat} (hl : bs.length = n) (hbs : ∀ x ∈ bs, 0 ≤ x ∧ x ≤ 255) : 0 ≤ vatI bs n i ∧ vatI bs n i ≤ 255 := by
  unfold vatI
  split
  · rename_i h
    obtain ⟨x, hx⟩ := get_of (k := i) hl h
    rw [getD_of hx]
    exact hbs x (List.mem_of_getElem? hx)
  · omega
set_option maxHeartbeats 1000000 in
set_option maxRecDepth 100000 in
theorem vAt_any {B : Nat} (i : Nat) (w : World) (hb : Sees elU w B A n bs) (hbs : ∀ x ∈ bs, 0 ≤ x ∧ x ≤ 255) (hn : n ≤ 1048576) (hi : i ≤ 1000) :
    Calls Tryd.prog 20 #[.slice A n c, .int .i64 (i : Int)] w fun e w' => e = .returned (.int .i64 (vatI bs n i)) ∧ w = w' := by
  by_cases hlt : i < n
  · obtain ⟨b, o, rfl, _, hc⟩ := hb.at_ hlt
    obtain ⟨x, hx⟩ := get_of (k := i) hb.len hlt
    have hcx := hc i x hx 0 _ rfl
    simp only [elU, Nat.mul_one, Nat.add_zero] at hcx
    have hxb := hbs x (List.mem_of_getElem? hx)
    have H : Hid (vatI bs n i = x) := by unfold Hid vatI; rw [if_pos hlt, getD_of hx]
    have i1 : (i : Int) < (n : Int) := by omega
    have iw : IntKind.i64.wrap x = x := IntWalk.i64_in _ (by omega)
    clear hc hx hb hbs
    go_enter Tryd.func20, Tryd.ntmps20
    go_wp2
    go_ret
    exact ⟨by rw [H.out]; rfl, rfl⟩
  · have H : Hid (vatI bs n i = ((i : Int) * 7 + (n : Int)) % 256) := by unfold Hid vatI; rw [if_neg hlt]; omega
    have i1 : ¬ (i : Int) < (n : Int) := by omega
    clear hb hbs
    go_enter Tryd.func20, Tryd.ntmps20
    go_wp2
    go_ret
    exact ⟨by rw [H.out]; rfl, rfl⟩
end
end Go.Proofs.YtonndpcmadnpmaaDoor
/- A string cut at a byte, strings joined with it, in plain Lean. Conditions: none. -/
namespace Go.Proofs.YtonndpcmadnpmaaDoor
open Go.RowKit
section
variable {s : ByteArray} {b : Int}
/-- The finished parts, and where the next one begins, after k bytes. -/
def splT (s : ByteArray) (b : Int) : Nat → List ByteArray × Nat
  | 0 => ([], 0)
  | k + 1 => if h : k < s.size then if (s[k].toNat : Int) = b then ((splT s b k).1 ++ [s.extract (splT s b k).2 k], k + 1) else splT s b k else splT s b k
/-- The parts. -/
def splA (s : ByteArray) (b : Int) : List ByteArray := (splT s b s.size).1 ++ [s.extract (splT s b s.size).2 s.size]
theorem splT_yes {k : Nat} (h : k < s.size) (hb : (s[k].toNat : Int) = b) : splT s b (k + 1) = ((splT s b k).1 ++ [s.extract (splT s b k).2 k], k + 1) := by
  rw [splT, dif_pos h, if_pos hb]
theorem splT_no {k : Nat} (h : k < s.size) (hb : ¬ (s[k].toNat : Int) = b) : splT s b (k + 1) = splT s b k := by
  rw [splT, dif_pos h, if_neg hb]
theorem splT_bd : ∀ k, (splT s b k).1.length ≤ k ∧ (splT s b k).2 ≤ k := by
  intro k
  induction k with
  | zero => exact ⟨Nat.le_refl _, Nat.le_refl _⟩
  | succ k ih =>
    rw [splT]
    split
    · split
      · refine ⟨?_, Nat.le_refl _⟩
        rw [List.length_append]
        simp; omega
      · exact ⟨by omega, by omega⟩
    · exact ⟨by omega, by omega⟩
theorem splA_len : 0 < (splA s b).length ∧ (splA s b).length ≤ s.size + 1 := by
  have := (splT_bd (s := s) (b := b) s.size).1
  unfold splA
  rw [List.length_append]
  simp; omega
/-- A part's bytes. -/
def byts (xs : List ByteArray) : List (List UInt8) := xs.map (·.data.toList)
theorem join_snoc (sep : List UInt8) (p : List (List UInt8)) (x y : List UInt8) : Lib.join (p ++ [x ++ y]) sep = Lib.join (p ++ [x]) sep ++ y := by
  cases p with
  | nil => rw [List.nil_append, List.nil_append, Lib.join_one, Lib.join_one]
  | cons a p =>
    rw [List.cons_append, List.cons_append, Lib.join_cons, Lib.join_cons, List.append_assoc]
    congr 1
    simp [Lib.joinTail]
theorem join_new (sep : List UInt8) {p : List (List UInt8)} (hp : p ≠ []) (x : List UInt8) : Lib.join (p ++ [x]) sep = Lib.join p sep ++ sep ++ x := by
  cases p with
  | nil => exact absurd rfl hp
  | cons a p =>
    rw [List.cons_append, Lib.join_cons, Lib.join_cons, List.append_assoc, List.append_assoc]
    congr 1
    simp [Lib.joinTail]
/-- The byte stands in a string. -/
def hasC (b : Int) (x : ByteArray) : Bool := x.data.toList.any fun u => decide ((u.toNat : Int) = b)
theorem hasC_false {x : ByteArray} : hasC b x = false ↔ ∀ u ∈ x.data.toList, ¬ (u.toNat : Int) = b := by
  unfold hasC
  rw [List.any_eq_false]
  simp
theorem get_extract {s : ByteArray} {k : Nat} (h : k < s.size) : s.data.toList[k]? = some s[k] := by
  rw [List.getElem?_eq_getElem (by simpa using h)]; rfl
theorem extract_succ {f k : Nat} (h : k < s.size) (hf : f ≤ k) : (s.extract f (k + 1)).data.toList = (s.extract f k).data.toList ++ [s[k]] := by
  rw [Lib.extract_data, Lib.extract_data, show k + 1 - f = (k - f) + 1 by omega]
  rw [List.take_add_one, List.getElem?_drop, show f + (k - f) = k by omega, get_extract h]
  rfl
theorem extract_none (k : Nat) : (s.extract k k).data.toList = [] := by
  rw [Lib.extract_data, Nat.sub_self, List.take_zero]
/-- Joined again, the parts are the string; no part holds the byte. -/
theorem splT_join (c : UInt8) (hc : (c.toNat : Int) = b) : ∀ k, k ≤ s.size → Lib.join (byts ((splT s b k).1 ++ [s.extract (splT s b k).2 k])) [c] = s.data.toList.take k ∧ (∀ x ∈ (splT s b k).1, hasC b x = false) ∧ hasC b (s.extract (splT s b k).2 k) = false := by
  intro k
  induction k with
  | zero =>
    intro _
    refine ⟨?_, (fun x hx => by cases hx), ?_⟩
    · show Lib.join [(s.extract 0 0).data.toList] [c] = _
      rw [Lib.join_one, extract_none, List.take_zero]
    · rw [hasC_false]
      show ∀ u ∈ (s.extract 0 0).data.toList, _
      rw [extract_none]
      intro u hu; cases hu
  | succ k ih =>
    intro hk
    have hlt : k < s.size := hk
    obtain ⟨h1, h2, h3⟩ := ih (by omega)
    have hbd := (splT_bd (s := s) (b := b) k).2
    have ht : s.data.toList.take (k + 1) = s.data.toList.take k ++ [s[k]] := by
      rw [List.take_add_one, get_extract hlt]; rfl
    by_cases hb : (s[k].toNat : Int) = b
    · rw [splT_yes hlt hb]
      refine ⟨?_, fun x hx => ?_, ?_⟩
      · unfold byts at h1 ⊢
        rw [List.map_append, List.map_cons, List.map_nil, extract_none, join_new _ (by simp), h1, ht, List.append_nil]
        have : s[k] = c := by
          apply UInt8.toNat_inj.1
          omega
        rw [this]
      · rcases List.mem_append.1 hx with hx | hx
        · exact h2 x hx
        · rw [List.mem_singleton.1 hx]; exact h3
      · rw [hasC_false, extract_none]
        intro u hu; cases hu
    · rw [splT_no hlt hb]
      refine ⟨?_, h2, ?_⟩
      · unfold byts at h1 ⊢
        rw [List.map_append, List.map_cons, List.map_nil] at h1 ⊢
        rw [extract_succ hlt hbd, join_snoc, h1, ht]
      · rw [hasC_false] at h3 ⊢
        rw [extract_succ hlt hbd]
        intro u hu
        rcases List.mem_append.1 hu with hu | hu
        · exact h3 u hu
        · rw [List.mem_singleton.1 hu]; exact hb
theorem splA_join (c : UInt8) (hc : (c.toNat : Int) = b) : Lib.join (byts (splA s b)) [c] = s.data.toList ∧ ∀ x ∈ splA s b, hasC b x = false := by
  obtain ⟨h1, h2, h3⟩ := splT_join (s := s) c hc s.size (Nat.le_refl _)
  refine ⟨?_, fun x hx => ?_⟩
  · unfold splA
    rw [h1, List.take_of_length_le (by simp)]
  · rcases List.mem_append.1 hx with hx | hx
    · exact h2 x hx
    · rw [List.mem_singleton.1 hx]; exact h3
end
section
variable {xs : List ByteArray} {c : UInt8}
/-- The first k strings joined. -/
def joinK (c : UInt8) (xs : List ByteArray) (k : Nat) : List UInt8 := Lib.join (byts (xs.take k)) [c]
/-- Their lengths, added up. -/
def lensK (xs : List ByteArray) (k : Nat) : Nat := Lib.lens (byts (xs.take k))
theorem joinK_zero : joinK c xs 0 = [] := rfl
theorem joinK_succ {k : Nat} {x : ByteArray} (h : xs[k]? = some x) (hk : 0 < k) : joinK c xs (k + 1) = joinK c xs k ++ [c] ++ x.data.toList := by
  unfold joinK byts
  obtain ⟨hl, _⟩ := List.getElem?_eq_some_iff.1 h
  rw [List.take_add_one, h, List.map_append]
  refine join_new _ (fun e => ?_) _
  have := congrArg List.length e
  simp at this
  rcases this with h0 | h0
  · omega
  · subst h0; simp at hl
theorem joinK_one {x : ByteArray} (h : xs[0]? = some x) : joinK c xs 1 = x.data.toList := by
  unfold joinK byts
  rw [List.take_add_one, h, List.take_zero]
  exact Lib.join_one _ _
theorem lensK_succ {k : Nat} {x : ByteArray} (h : xs[k]? = some x) : lensK xs (k + 1) = lensK xs k + x.size := by
  unfold lensK byts
  rw [List.map_take, Lib.lens_take_succ _ k x.data.toList (by rw [List.getElem?_map, h]; rfl), List.map_take]
  rfl
theorem lensK_mono {k j : Nat} (h : k ≤ j) : lensK xs k ≤ lensK xs j := by
  have := Lib.lens_take_le (byts (xs.take j)) k
  unfold lensK
  rw [show byts (xs.take k) = (byts (xs.take j)).take k by unfold byts; rw [← List.map_take, List.take_take, Nat.min_eq_left h]]
  exact this
theorem joinK_len {k : Nat} (hk : 0 < k) (hl : k ≤ xs.length) : (joinK c xs k).length = (k - 1) + lensK xs k := by
  unfold joinK lensK
  have h : (byts (xs.take k)).length = k := by unfold byts; rw [List.length_map, List.length_take]; omega
  cases e : byts (xs.take k) with
  | nil => rw [e] at h; simp at h; omega
  | cons y r =>
    rw [e, List.length_cons] at h
    rw [Lib.join_length]
    simp; omega
/-- The strings can be joined. -/
def okJ (b : Int) (xs : List ByteArray) : Bool := decide (0 < xs.length) && xs.all (fun x => !hasC b x) && decide (xs.length - 1 + lensK xs xs.length ≤ 4000)
def joinS (c : UInt8) (xs : List ByteArray) : ByteArray := if okJ (c.toNat : Int) xs then ⟨(joinK c xs xs.length).toArray⟩ else ⟨#[]⟩
theorem okJ_has {b : Int} {k : Nat} {x : ByteArray} (h : xs[k]? = some x) (hx : hasC b x = true) : okJ b xs = false := by
  unfold okJ
  have : xs.all (fun x => !hasC b x) = false := by
    rw [List.all_eq_false]
    exact ⟨x, List.mem_of_getElem? h, by rw [hx]; decide⟩
  rw [this]; simp
theorem okJ_big {b : Int} (h : 4000 < xs.length - 1 + lensK xs xs.length) : okJ b xs = false := by
  unfold okJ
  rw [decide_eq_false (by omega : ¬ (xs.length - 1 + lensK xs xs.length ≤ 4000))]; simp
theorem okJ_long {b : Int} {k : Nat} (hk : k < xs.length) (h : 4000 < (joinK c xs (k + 1)).length) : okJ b xs = false := by
  rw [joinK_len (k := k + 1) (by omega) (by omega)] at h
  have := lensK_mono (xs := xs) (k := k + 1) (j := xs.length) hk
  exact okJ_big (by omega)
theorem okJ_yes {b : Int} (h0 : 0 < xs.length) (h1 : ∀ (k : Nat) x, xs[k]? = some x → hasC b x = false) (h2 : xs.length - 1 + lensK xs xs.length ≤ 4000) : okJ b xs = true := by
  unfold okJ
  rw [decide_eq_true h0, decide_eq_true h2]
  have : xs.all (fun x => !hasC b x) = true := by
    rw [List.all_eq_true]
    intro x hx
    obtain ⟨k, hk⟩ := List.getElem?_of_mem hx
    rw [h1 k x hk]; rfl
  rw [this]; rfl
theorem joinS_no (h : okJ (c.toNat : Int) xs = false) : joinS c xs = ⟨#[]⟩ := by unfold joinS; rw [h]; rfl
theorem joinS_yes (h : okJ (c.toNat : Int) xs = true) {s : ByteArray} (hs : s.data.toList = joinK c xs xs.length) : joinS c xs = s := by
  unfold joinS
  rw [h, if_pos rfl, ← hs, Lib.mk_data]
/-- What was cut can be joined, and is the string. -/
theorem splA_joinS {s : ByteArray} (h : s.size ≤ 4000) : okJ (c.toNat : Int) (splA s (c.toNat : Int)) = true ∧ joinS c (splA s (c.toNat : Int)) = s := by
  obtain ⟨h1, h2⟩ := splA_join (s := s) c rfl
  have h3 := (splA_len (s := s) (b := (c.toNat : Int))).1
  have h4 : joinK c (splA s (c.toNat : Int)) (splA s (c.toNat : Int)).length = s.data.toList := by
    unfold joinK
    rw [List.take_length]; exact h1
  have h5 := joinK_len (c := c) h3 (Nat.le_refl _)
  rw [h4] at h5
  have h6 : s.data.toList.length = s.size := by simp
  have h7 := okJ_yes (b := (c.toNat : Int)) h3 (fun k x hk => h2 x (List.mem_of_getElem? hk)) (by omega)
  exact ⟨h7, joinS_yes h7 h4.symm⟩
theorem has_index {x : ByteArray} : (0 ≤ Lib.indexByte x.data.toList c) ↔ hasC (c.toNat : Int) x = true := by
  constructor
  · intro h
    obtain ⟨o, ho⟩ := Int.eq_ofNat_of_zero_le h
    have := (Lib.indexByte_some ho).1
    unfold hasC
    rw [List.any_eq_true]
    exact ⟨c, List.mem_of_getElem? this, by simp⟩
  · intro h
    by_cases hn : Lib.indexByte x.data.toList c < 0
    · have h1 := Lib.indexByte_ge x.data.toList c
      have h2 := Lib.indexByte_none (l := x.data.toList) (c := c) (by omega)
      unfold hasC at h
      rw [List.any_eq_true] at h
      obtain ⟨u, hu, he⟩ := h
      obtain ⟨k, hk⟩ := List.getElem?_of_mem hu
      have : u = c := by
        apply UInt8.toNat_inj.1
        have := of_decide_eq_true he
        omega
      rw [this] at hk
      exact absurd hk (h2 k)
    · omega
end
end Go.Proofs.YtonndpcmadnpmaaDoor
/- Sealed strings in plain Lean: a string, a sign, its checksum; another byte in any place is told. Conditions: none. -/
namespace Go.Proofs.YtonndpcmadnpmaaDoor
open Go.RowKit
/-- The sign. -/
def sgn : ByteArray := ⟨#[35]⟩
/-- A string with its checksum. -/
def sealS (s : ByteArray) : ByteArray := s ++ sgn ++ numS (Chk.sum s.data.toList)
def sealL (l : List UInt8) : List UInt8 := l ++ 35 :: Lib.itoa (Chk.sum l)
theorem sealS_list (s : ByteArray) : (sealS s).data.toList = sealL s.data.toList := by
  unfold sealS sealL sgn
  rw [Joins.data_append, Joins.data_append, numS_list]
  simp
theorem chk_small (l : List UInt8) : -999999 ≤ Chk.sum l ∧ Chk.sum l ≤ 999999 := by have := Chk.sum_bd l; omega
theorem seal_size (s : ByteArray) : (sealS s).size = s.size + 1 + (numS (Chk.sum s.data.toList)).size := by
  unfold sealS
  rw [ByteArray.size_append, ByteArray.size_append]
  rfl
/-- Can the string be sealed? -/
def apB (s : ByteArray) : Bool := decide (s.size ≤ 4000) && (!hasC 35 s && decide ((sealS s).size ≤ 4000))
def apS (s : ByteArray) : ByteArray := if apB s then sealS s else ⟨#[]⟩
/-- What stands ahead of the first sign. -/
def preL (l : List UInt8) : List UInt8 := l.takeWhile fun u => !decide (u = 35)
def preS (s : ByteArray) : ByteArray := ⟨(preL s.data.toList).toArray⟩
theorem preS_list (s : ByteArray) : (preS s).data.toList = preL s.data.toList := by unfold preS; simp
theorem has35 {x : ByteArray} : hasC 35 x = true ↔ (35 : UInt8) ∈ x.data.toList := by
  unfold hasC
  rw [List.any_eq_true]
  constructor
  · rintro ⟨u, hu, h⟩
    have h1 := of_decide_eq_true h
    have : u = 35 := by
      apply UInt8.toNat_inj.1
      have : (35 : UInt8).toNat = 35 := rfl
      omega
    rw [← this]; exact hu
  · intro h; exact ⟨35, h, rfl⟩
theorem has35_no {x : ByteArray} : hasC 35 x = false ↔ ¬ (35 : UInt8) ∈ x.data.toList := by rw [← has35]; simp
theorem preL_no (l : List UInt8) : ¬ (35 : UInt8) ∈ preL l := by
  induction l with
  | nil => intro h; cases h
  | cons x l ih =>
    intro h
    unfold preL at h ih
    rw [List.takeWhile_cons] at h
    split at h
    · rename_i hx
      rcases List.mem_cons.1 h with e | h
      · rw [← e] at hx; exact absurd hx (by decide)
      · exact ih h
    · cases h
theorem preL_free : ∀ {l : List UInt8}, ¬ (35 : UInt8) ∈ l → ∀ r, preL (l ++ 35 :: r) = l := by
  intro l
  induction l with
  | nil => intro _ r; simp [preL]
  | cons x l ih =>
    intro h r
    have hx : ¬ x = 35 := fun e => h (by rw [e]; exact List.mem_cons_self)
    unfold preL at ih ⊢
    rw [List.cons_append, List.takeWhile_cons, if_pos (by simp [hx]), ih (fun h2 => h (List.mem_cons_of_mem _ h2))]
theorem preL_all : ∀ {l : List UInt8}, ¬ (35 : UInt8) ∈ l → preL l = l := by
  intro l
  induction l with
  | nil => intro _; rfl
  | cons x l ih =>
    intro h
    have hx : ¬ x = 35 := fun e => h (by rw [e]; exact List.mem_cons_self)
    unfold preL at ih ⊢
    rw [List.takeWhile_cons, if_pos (by simp [hx]), ih (fun h2 => h (List.mem_cons_of_mem _ h2))]
theorem preL_split : ∀ {l : List UInt8}, (35 : UInt8) ∈ l → ∃ r, l = preL l ++ 35 :: r := by
  intro l
  induction l with
  | nil => intro h; cases h
  | cons x l ih =>
    intro h
    by_cases hx : x = 35
    · subst hx; exact ⟨l, by simp [preL]⟩
    · rcases List.mem_cons.1 h with e | h
      · exact absurd e.symm hx
      · obtain ⟨r, hr⟩ := ih h
        refine ⟨r, ?_⟩
        have e : preL (x :: l) = x :: preL l := by unfold preL; rw [List.takeWhile_cons, if_pos (by simp [hx])]
        rw [e, List.cons_append, ← hr]
/-- A sealed string, opened. -/
def veB (s : ByteArray) : Bool := decide (s.size ≤ 4000) && decide (sealS (preS s) = s)
def veS (s : ByteArray) : ByteArray := if veB s then preS s else ⟨#[]⟩
theorem seal_inj_pre {s : ByteArray} (h : sealS (preS s) = s) : hasC 35 s = true := by
  rw [has35, ← h, sealS_list]
  unfold sealL
  simp
/-- As the program asks. -/
theorem veB_impl (s : ByteArray) : veB s = (hasC 35 s && (apB (preS s) && decide (apS (preS s) = s))) := by
  have hno : hasC 35 (preS s) = false := by rw [has35_no, preS_list]; exact preL_no _
  rw [Bool.eq_iff_iff]
  unfold veB
  rw [Bool.and_eq_true, decide_eq_true_eq, decide_eq_true_eq, Bool.and_eq_true, Bool.and_eq_true, decide_eq_true_eq]
  constructor
  · rintro ⟨h1, h2⟩
    have hsz := seal_size (preS s)
    rw [h2] at hsz
    have ha : apB (preS s) = true := by
      unfold apB
      rw [hno, h2, decide_eq_true (by omega : (preS s).size ≤ 4000), decide_eq_true h1]; rfl
    refine ⟨seal_inj_pre h2, ha, ?_⟩
    unfold apS; rw [ha]; exact h2
  · rintro ⟨h1, h2, h3⟩
    unfold apS at h3
    rw [h2] at h3
    have h4 : sealS (preS s) = s := h3
    refine ⟨?_, h4⟩
    unfold apB at h2
    rw [Bool.and_eq_true, Bool.and_eq_true, decide_eq_true_eq, decide_eq_true_eq, h4] at h2
    exact h2.2.2
/-! ### Sealed, then opened -/
theorem itoa_no35 (n : Int) : ¬ (35 : UInt8) ∈ Lib.itoa n := by
  intro h
  by_cases hn : n < 0
  · rw [itoa_neg_ hn] at h
    rcases List.mem_cons.1 h with e | h
    · exact absurd e (by decide)
    · have := (dec_dig h).1; exact absurd this (by decide)
  · rw [itoa_pos_ hn] at h
    have := (dec_dig h).1; exact absurd this (by decide)
theorem ve_seal {x : ByteArray} (h : apB x = true) : veB (sealS x) = true ∧ veS (sealS x) = x := by
  unfold apB at h
  rw [Bool.and_eq_true, Bool.and_eq_true, decide_eq_true_eq, decide_eq_true_eq, Bool.not_eq_true'] at h
  have hp : preS (sealS x) = x := by
    apply ba_eq
    rw [preS_list, sealS_list]
    exact preL_free (has35_no.1 h.2.1) _
  have hv : veB (sealS x) = true := by
    unfold veB
    rw [hp, decide_eq_true h.2.2, decide_eq_true rfl]; rfl
  refine ⟨hv, ?_⟩
  unfold veS; rw [hv]; exact hp
/-! ### Another byte is told -/
theorem step_inj {a b : Int} (ha : 0 ≤ a ∧ a < 999979) (hb : 0 ≤ b ∧ b < 999979) (c : UInt8) (h : Chk.step a c = Chk.step b c) : a = b := by
  unfold Chk.step at h
  omega
theorem step_other {a : Int} {c d : UInt8} (h : Chk.step a c = Chk.step a d) : c = d := by
  unfold Chk.step at h
  have h1 := c.toNat_lt
  have h2 := d.toNat_lt
  apply UInt8.toNat_inj.1
  omega
theorem fold_bd : ∀ (l : List UInt8) (a : Int), 0 ≤ a ∧ a < 999979 → 0 ≤ l.foldl Chk.step a ∧ l.foldl Chk.step a < 999979 := by
  intro l
  induction l with
  | nil => intro a h; exact h
  | cons c l ih => intro a _; exact ih _ (Chk.step_bd a c)
theorem fold_inj : ∀ (l : List UInt8) {a b : Int}, 0 ≤ a ∧ a < 999979 → 0 ≤ b ∧ b < 999979 → l.foldl Chk.step a = l.foldl Chk.step b → a = b := by
  intro l
  induction l with
  | nil => intro a b _ _ h; exact h
  | cons c l ih => intro a b ha hb h; exact step_inj ha hb c (ih (Chk.step_bd a c) (Chk.step_bd b c) h)
theorem sum_other {p r : List UInt8} {c d : UInt8} (h : Chk.sum (p ++ c :: r) = Chk.sum (p ++ d :: r)) : c = d := by
  unfold Chk.sum at h
  rw [List.foldl_append, List.foldl_append, List.foldl_cons, List.foldl_cons] at h
  exact step_other (fold_inj r (Chk.step_bd _ _) (Chk.step_bd _ _) h)
theorem itoa_inj {m n : Int} (h : Lib.itoa m = Lib.itoa n) : m = n := by
  have h1 := atoi_itoa m
  rw [h, atoi_itoa n] at h1
  injection h1 with h1
  exact h1.symm
/-- Where the one sign stands. -/
theorem sign_at {x r : List UInt8} (hx : ¬ (35 : UInt8) ∈ x) (hr : ¬ (35 : UInt8) ∈ r) {k : Nat} (h : (x ++ 35 :: r)[k]? = some 35) : k = x.length := by
  rcases Nat.lt_trichotomy k x.length with h1 | h1 | h1
  · rw [List.getElem?_append_left h1] at h
    exact absurd (List.mem_of_getElem? h) hx
  · exact h1
  · rw [List.getElem?_append_right (by omega), show k - x.length = (k - x.length - 1) + 1 by omega, List.getElem?_cons_succ] at h
    exact absurd (List.mem_of_getElem? h) hr
theorem seal_other {x y : List UInt8} (hx : ¬ (35 : UInt8) ∈ x) (hy : ¬ (35 : UInt8) ∈ y) {k : Nat} {u : UInt8} (hk : k < (sealL x).length) (hu : (sealL x)[k]? ≠ some u) : sealL y ≠ (sealL x).set k u := by
  intro h
  have hlen : (sealL y).length = (sealL x).length := by rw [h, List.length_set]
  have ne : ∀ j, j ≠ k → (sealL y)[j]? = (sealL x)[j]? := fun j hj => by rw [h, List.getElem?_set_ne (by omega)]
  have at_ : (sealL y)[k]? = some u := by rw [h, List.getElem?_set_self hk]
  have hxs : (sealL x)[x.length]? = some 35 := by unfold sealL; rw [List.getElem?_append_right (Nat.le_refl _), Nat.sub_self]; rfl
  have hys : (sealL y)[y.length]? = some 35 := by unfold sealL; rw [List.getElem?_append_right (Nat.le_refl _), Nat.sub_self]; rfl
  have hxy : x.length = y.length := by
    by_cases e : k = x.length
    · by_cases e2 : y.length = k
      · omega
      · rw [ne _ e2] at hys
        have := sign_at hx (itoa_no35 _) hys
        omega
    · rw [← ne _ (fun e2 => e e2.symm)] at hxs
      exact sign_at hy (itoa_no35 _) hxs
  have left : ∀ j, j < x.length → ((sealL x)[j]? = x[j]? ∧ (sealL y)[j]? = y[j]?) := fun j hj => ⟨by unfold sealL; rw [List.getElem?_append_left hj], by unfold sealL; rw [List.getElem?_append_left (by omega)]⟩
  have right : ∀ j, ((sealL x)[x.length + 1 + j]? = (Lib.itoa (Chk.sum x))[j]? ∧ (sealL y)[x.length + 1 + j]? = (Lib.itoa (Chk.sum y))[j]?) := fun j => ⟨by
    unfold sealL
    rw [List.getElem?_append_right (by omega), show x.length + 1 + j - x.length = j + 1 by omega, List.getElem?_cons_succ], by
    unfold sealL
    rw [List.getElem?_append_right (by omega), show x.length + 1 + j - y.length = j + 1 by omega, List.getElem?_cons_succ]⟩
  rcases Nat.lt_trichotomy k x.length with h1 | h1 | h1
  · have hd : Lib.itoa (Chk.sum x) = Lib.itoa (Chk.sum y) := by
      apply List.ext_getElem?
      intro j
      rw [← (right j).1, ← (right j).2, ne _ (by omega)]
    have hs := itoa_inj hd
    have e1 : x = x.take k ++ x[k] :: x.drop (k + 1) := by rw [List.getElem_cons_drop h1, List.take_append_drop]
    have e2 : y = x.take k ++ u :: x.drop (k + 1) := by
      apply List.ext_getElem?
      intro j
      by_cases hj : j = k
      · subst hj
        rw [← (left j h1).2, at_, List.getElem?_append_right (by simp; omega)]
        simp [Nat.min_eq_left (Nat.le_of_lt h1)]
      · have e3 : y[j]? = x[j]? := by
          by_cases hjx : j < x.length
          · rw [← (left j hjx).1, ← (left j hjx).2, ne _ hj]
          · rw [List.getElem?_eq_none (by omega), List.getElem?_eq_none (by omega)]
        rw [e3]
        conv => lhs; rw [e1]
        by_cases hjk : j < k
        · rw [List.getElem?_append_left (by simp; omega), List.getElem?_append_left (by simp; omega)]
        · rw [List.getElem?_append_right (by simp; omega), List.getElem?_append_right (by simp; omega)]
          simp only [List.length_take, Nat.min_eq_left (Nat.le_of_lt h1)]
          rw [show j - k = (j - k - 1) + 1 by omega, List.getElem?_cons_succ, List.getElem?_cons_succ]
    rw [e1, e2] at hs
    have e4 := sum_other hs
    apply hu
    rw [(left k h1).1, List.getElem?_eq_getElem h1, e4]
  · rw [h1, hxy, hys] at at_
    rw [h1, hxs] at hu
    exact hu at_
  · have e2 : y = x := by
      apply List.ext_getElem?
      intro j
      by_cases hjx : j < x.length
      · rw [← (left j hjx).1, ← (left j hjx).2, ne _ (by omega)]
      · rw [List.getElem?_eq_none (by omega), List.getElem?_eq_none (by omega)]
    rw [e2] at at_
    exact hu at_
theorem ve_spoilt {x s : ByteArray} (h : hasC 35 x = false) {k : Nat} {u : UInt8} (hk : k < (sealS x).size) (hu : (sealL x.data.toList)[k]? ≠ some u) (hs : s.data.toList = (sealS x).data.toList.set k u) : veB s = false := by
  rw [Bool.eq_false_iff]
  intro hv
  unfold veB at hv
  rw [Bool.and_eq_true, decide_eq_true_eq, decide_eq_true_eq] at hv
  have h2 : sealL (preL s.data.toList) = (sealL x.data.toList).set k u := by
    rw [← sealS_list x, ← hs]
    have := congrArg (fun z : ByteArray => z.data.toList) hv.2
    simp only [sealS_list, preS_list] at this
    exact this
  refine seal_other (has35_no.1 h) (preL_no s.data.toList) ?_ hu h2
  rw [← sealS_list]; simpa using hk
/-! ### The first part, as the two sides find it -/
theorem index_pre : ∀ l : List UInt8, Lib.index l [35] = if (35 : UInt8) ∈ l then ((preL l).length : Int) else -1 := by
  intro l
  induction l with
  | nil => rfl
  | cons x l ih =>
    unfold Lib.index
    by_cases hx : x = 35
    · subst hx
      rw [if_pos (by simp), if_pos List.mem_cons_self]
      simp [preL]
    · have e1 : List.isPrefixOf [(35 : UInt8)] (x :: l) = false := by
        simp [List.isPrefixOf]
        exact fun e => hx e.symm
      have e2 : preL (x :: l) = x :: preL l := by unfold preL; rw [List.takeWhile_cons, if_pos (by simp [hx])]
      rw [e1, ih]
      by_cases hm : (35 : UInt8) ∈ l
      · rw [if_pos hm, if_pos (List.mem_cons_of_mem _ hm), e2, if_neg (by decide), if_neg (by rw [beq_iff_eq]; omega)]
        simp
      · have h3 : ¬ (35 : UInt8) ∈ x :: l := fun h => by
          rcases List.mem_cons.1 h with e | h
          · exact hx e.symm
          · exact hm h
        rw [if_neg hm, if_neg h3]
        rfl
theorem preL_take (l : List UInt8) : l.take (preL l).length = preL l := by
  unfold preL
  exact (List.prefix_iff_eq_take.1 (List.takeWhile_prefix _)).symm
theorem cut_pre (s : ByteArray) : (Lib.cut s.data.toList [35]).2.2 = hasC 35 s ∧ (hasC 35 s = true → (Lib.cut s.data.toList [35]).1 = preL s.data.toList) := by
  unfold Lib.cut
  rw [index_pre]
  by_cases h : (35 : UInt8) ∈ s.data.toList
  · have h1 := has35.2 h
    rw [if_pos h, if_pos (by omega), h1]
    exact ⟨rfl, fun _ => by show List.take _ _ = _; rw [Int.toNat_natCast]; exact preL_take _⟩
  · have h1 := has35_no.2 h
    rw [if_neg h, if_neg (by omega), h1]
    exact ⟨rfl, fun h => by cases h⟩
theorem join_head {x : List UInt8} {r : List (List UInt8)} (hx : ¬ (35 : UInt8) ∈ x) : preL (Lib.join (x :: r) [35]) = x := by
  rw [Lib.join_cons]
  cases r with
  | nil => simp [Lib.joinTail]; exact preL_all hx
  | cons y r =>
    have : Lib.joinTail [35] (y :: r) = 35 :: (y ++ Lib.joinTail [35] r) := by simp [Lib.joinTail]
    rw [this]
    exact preL_free hx _
theorem splA_pre (s : ByteArray) : (splA s 35)[0]? = some (preS s) := by
  obtain ⟨h1, h2⟩ := splA_join (s := s) (b := 35) 35 rfl
  have h3 := (splA_len (s := s) (b := 35)).1
  cases h : splA s 35 with
  | nil => rw [h] at h3; simp at h3
  | cons x r =>
    rw [h] at h1 h2
    have hx := has35_no.1 (h2 x List.mem_cons_self)
    have h4 : preL s.data.toList = x.data.toList := by
      rw [← h1]
      show preL (Lib.join (x.data.toList :: byts r) [35]) = _
      exact join_head hx
    simp only [List.getElem?_cons_zero]
    congr 1
    apply ba_eq
    rw [preS_list, h4]
end Go.Proofs.YtonndpcmadnpmaaDoor
/- The two checksum functions, walked: each returns Chk.sum of its string and leaves the world as it was. Conditions: the string has at most 1048576 bytes. -/
namespace Go.Proofs.YtonndpcmadnpmaaDoor
open Go.RowKit
theorem implChecksum_any (s : ByteArray) (w : World) (hs : s.size ≤ 1048576) :
    Calls Tryd.prog 28 #[.string s] w fun e w' => e = .returned (.int .i64 (Chk.sum s.data.toList)) ∧ w = w' := by
  go_enter Tryd.func28, Tryd.ntmps28
  go_wp2
  go_loop [3, 4] (fun h i => ∃ k : Nat, k ≤ s.size ∧ i = .int .i64 k ∧ h = .int .i64 (Chk.sum (s.data.toList.take k))) (fun _ i => s.size - (intOf i).toNat)
  case atStart => exact ⟨0, Nat.zero_le _, rfl, rfl⟩
  case round =>
    obtain ⟨k, hk, rfl, rfl⟩ := hrel
    have hd := Chk.sum_bd (s.data.toList.take k)
    by_cases hlt : k < s.size
    · have HS : Hid (Chk.sum (s.data.toList.take (k + 1)) = (41 * Chk.sum (s.data.toList.take k) + (s[k].toNat : Int) + 1) % 999979) := by
        rw [take_snoc s k hlt]; exact Chk.sum_snoc _ _
      have hb : (s[k].toNat : Int) < 256 := by have := s[k].toNat_lt; omega
      go_wp2
      go_round
      case rel => exact ⟨k + 1, by omega, by go_num, by rw [HS.out]⟩
      case measure => simp [intOf]; omega
    · go_wp2
      go_ret
      exact ⟨ret_int (by rw [List.take_of_length_le (by simp; omega)]), rfl⟩
theorem specSum_any (s : ByteArray) (w : World) (hs : s.size ≤ 1048576) :
    Calls Tryd.prog 39 #[.string s] w fun e w' => e = .returned (.int .i64 (Chk.sum s.data.toList)) ∧ w = w' := by
  go_enter Tryd.func39, Tryd.ntmps39
  go_wp2
  go_loop [3, 4] (fun h i => ∃ k : Nat, k ≤ s.size ∧ i = .int .i64 k ∧ h = .int .i64 (Chk.sum (s.data.toList.take k))) (fun _ i => s.size - (intOf i).toNat)
  case atStart => exact ⟨0, Nat.zero_le _, rfl, rfl⟩
  case round =>
    obtain ⟨k, hk, rfl, rfl⟩ := hrel
    have hd := Chk.sum_bd (s.data.toList.take k)
    by_cases hlt : k < s.size
    · have HS : Hid (Chk.sum (s.data.toList.take (k + 1)) = (41 * Chk.sum (s.data.toList.take k) + (s[k].toNat : Int) + 1) % 999979) := by
        rw [take_snoc s k hlt]; exact Chk.sum_snoc _ _
      have hb : (s[k].toNat : Int) < 256 := by have := s[k].toNat_lt; omega
      go_wp2
      go_round
      case rel => exact ⟨k + 1, by omega, by go_num, by rw [HS.out]⟩
      case measure => simp [intOf]; omega
    · go_wp2
      go_ret
      exact ⟨ret_int (by rw [List.take_of_length_le (by simp; omega)]), rfl⟩
end Go.Proofs.YtonndpcmadnpmaaDoor
/- SplitString of both sides, walked. Conditions: the string has at most 1048576 bytes. -/
namespace Go.Proofs.YtonndpcmadnpmaaDoor
open Go.RowKit
set_option maxHeartbeats 2000000 in
set_option maxRecDepth 100000 in
theorem l1Split_any (s : ByteArray) (b : Int) (w : World) (hs : s.size ≤ 1048576) :
    Calls Tryd.prog 29 #[.string s, .int .u8 b] w fun e w' => ∃ v, e = .returned v ∧ Owns elStr w' w.heap.size 9 v (splA s b) ∧ Below w.heap.size w w' := by
  have hS := (Led.nil w).empty elStr 9 w.heap.size rfl w.heap.size (Nat.le_refl _)
  obtain ⟨i0, hi, hz0, hz1, hz2⟩ := info_parts str_info
  have HS : Hid (Led w (w.alloc (.cells #[] 9)) [tOwns elStr w.heap.size 9 (.slice (some ⟨w.heap.size, 0, none⟩) 0 0) (splT s b 0).1]) := hS
  have HA : Hid (splA s b = (splT s b s.size).1 ++ [s.extract (splT s b s.size).2 s.size]) := rfl
  clear hS
  go_enter Tryd.func29, Tryd.ntmps29
  go_wp2_with fail
  go_loopw [5, 6, 7] (fun v f i wr => ∃ k m : Nat, k ≤ s.size ∧ m ≤ k ∧ i = .int .i64 k ∧ f = .int .i64 m ∧ Hid (m = (splT s b k).2) ∧ Hid (Led w wr [tOwns elStr w.heap.size 9 v (splT s b k).1])) (fun _ _ i _ => s.size - (intOf i).toNat)
  case atStart => exact ⟨0, 0, Nat.zero_le _, Nat.le_refl _, rfl, rfl, rfl, HS⟩
  case round =>
    clear HS
    obtain ⟨k, m, hk, hm, rfl, rfl, HM, HS⟩ := hrel
    have hbd := splT_bd (s := s) (b := b) k
    obtain ⟨A3, c3, rfl, _⟩ := HS.out.form 0 rfl
    by_cases hlt : k < s.size
    · by_cases hb : (s[k].toNat : Int) = b
      · have HN : Hid (splT s b (k + 1) = ((splT s b k).1 ++ [s.extract m k], k + 1)) := by have := splT_yes hlt hb; rw [← HM.out] at this; exact this
        have hb2 : ((s[k].toNat : Int) == b) = true := by rw [hb]; exact beq_self_eq_true b
        have HS2 := hid (HS.out.blk_ wr.heap.size rfl 9 #[.string (s.extract m k)])
        clear hb HM
        go_wp2_with (first
          | (at_builtin; refine wpList_append_led rfl _ _ 40 rfl HS2.out 1 rfl Tryd.underlying40 hi hz0 hz1 (by rw [hz2]; decide) rfl rfl rfl (show Sees elStr _ _ _ 1 [s.extract m k] from sees_new elStr _ _ _ _ rfl) (by omega) HS2.out.bl.size ?_)
          | go_in)
        intro A2 c2 w7 hS5
        have hS6 := hid (hS5.drop 1)
        have HM2 : Hid (k + 1 = (splT s b (k + 1)).2) := by rw [HN.out]; rfl
        clear HS2 hS5
        go_wp2
        go_roundw
        case rel => exact ⟨k + 1, k + 1, by omega, Nat.le_refl _, by go_num, by go_num, HM2, by rw [HN.out]; exact hS6⟩
        case measure => simp [intOf]; omega
      · have HN : Hid (splT s b (k + 1) = splT s b k) := splT_no hlt hb
        have hb2 : ((s[k].toNat : Int) == b) = false := by rw [beq_eq_false_iff_ne]; exact hb
        clear hb
        go_wp2
        go_roundw
        case rel => exact ⟨k + 1, m, by omega, by omega, by go_num, rfl, by rw [HN.out]; exact HM, by rw [HN.out]; exact HS⟩
        case measure => simp [intOf]; omega
    · have hkm : k = s.size := by omega
      subst hkm
      have HS2 := hid (HS.out.blk_ wr.heap.size rfl 9 #[.string (s.extract m s.size)])
      go_wp2_with (first
        | (at_builtin; refine wpList_append_led rfl _ _ 40 rfl HS2.out 1 rfl Tryd.underlying40 hi hz0 hz1 (by rw [hz2]; decide) rfl rfl rfl (show Sees elStr _ _ _ 1 [s.extract m s.size] from sees_new elStr _ _ _ _ rfl) (by omega) HS2.out.bl.size ?_)
        | go_in)
      intro A2 c2 w7 hS5
      have hS6 := hid (hS5.drop 1)
      clear HS2 hS5
      go_wp2
      go_ret
      refine ⟨_, rfl, ?_, hS6.out.bl⟩
      rw [HA.out, ← HM.out]
      exact hS6.out.own 0 rfl
/-- The byte of a separator. -/
def sepB (sep : ByteArray) : Int := if h : 0 < sep.size then (sep[0].toNat : Int) else 0
def splOk (s sep : ByteArray) : Bool := decide (s.size ≤ 4000) && decide (sep.size = 1)
def splR (s sep : ByteArray) : List ByteArray := if splOk s sep then splA s (sepB sep) else []
end Go.Proofs.YtonndpcmadnpmaaDoor
