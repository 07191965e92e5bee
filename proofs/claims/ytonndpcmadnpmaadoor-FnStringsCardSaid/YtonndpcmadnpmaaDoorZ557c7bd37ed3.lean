/- FnStrings, the tied card: the law returns true at every input; memory that was there reads as it did. Conditions: the listed tables of the library read as the program lays them, which the card ties to its text. -/
import Derived.Test.YtonndpcmadnpmaaDoorZ690749af8843
import Derived.Test.YtonndpcmadnpmaaDoorZ19663fe742fc
import Derived.StillTailTactics
import Derived.Test.YtonndpcmadnpmaaDoorCards
import Derived.Test.YtonndpcmadnpmaaDoorTie
import Derived.Test.YtonndpcmadnpmaaDoorZ34e4de017d5a
import Derived.Deep.DeepHandedRow
import Derived.Deep.DeepWitnessRowRef
import Derived.LaidMore
import Derived.Lib.LaidTab
import Derived.Stop.LaidErr
/- FnStrings, walked. Conditions: the library's tables read as they were laid. -/
namespace Go.Proofs.YtonndpcmadnpmaaDoor
open Go.RowKit
theorem bytesRow_get {s : ByteArray} {cap k : Nat} (h : k < s.size) : (bytesRow s cap)[k]? = some (.int .u8 ((s[k]).toNat : Int)) := by
  unfold bytesRow
  rw [Array.getElem?_append_left (by simpa using h), Array.getElem?_map]
  have : s.data[k]? = some s[k] := by rw [Array.getElem?_eq_getElem (by simpa using h)]; rfl
  rw [this]; rfl
theorem xor_u8 {a d : Int} (ha : 0 ≤ a ∧ a ≤ 255) (hd : 1 ≤ d ∧ d ≤ 255) : ∃ u : UInt8, Go.bits .xor .u8 a d = (u.toNat : Int) ∧ (u.toNat : Int) ≠ a := by
  have h : Go.bits .xor .u8 a d = IntKind.u8.wrap ((BitVec.ofInt 8 a ^^^ BitVec.ofInt 8 d).toNat : Int) := rfl
  have hlt := (BitVec.ofInt 8 a ^^^ BitVec.ofInt 8 d).isLt
  have h2 : (UInt8.ofNat (BitVec.ofInt 8 a ^^^ BitVec.ofInt 8 d).toNat).toNat = (BitVec.ofInt 8 a ^^^ BitVec.ofInt 8 d).toNat := by
    rw [UInt8.toNat_ofNat']; omega
  refine ⟨UInt8.ofNat (BitVec.ofInt 8 a ^^^ BitVec.ofInt 8 d).toNat, by rw [h, h2, IntKind.wrap_u8]; omega, fun e => ?_⟩
  rw [h2] at e
  have ea : (BitVec.ofInt 8 a).toNat = a.toNat := by rw [BitVec.toNat_ofInt]; omega
  have ed : (BitVec.ofInt 8 d).toNat = d.toNat := by rw [BitVec.toNat_ofInt]; omega
  have e1 : BitVec.ofInt 8 a ^^^ BitVec.ofInt 8 d = BitVec.ofInt 8 a := BitVec.eq_of_toNat_eq (by omega)
  have e2 : BitVec.ofInt 8 d = 0#8 := by
    have := congrArg (BitVec.ofInt 8 a ^^^ ·) e1
    simp only [← BitVec.xor_assoc, BitVec.xor_self, BitVec.zero_xor] at this
    exact this
  rw [e2] at ed
  simp at ed
  omega
/-- The world behind '[]byte(s)'. -/
theorem bytes_world (w : World) (y : ByteArray) (cap : Nat) (e : TypeId) : Below w.heap.size w ((w.alloc (.cells (bytesRow y cap) e ((bytesRow y cap).size, (bytesRow y cap).size + 1))).drew) ∧ w.heap.size < ((w.alloc (.cells (bytesRow y cap) e ((bytesRow y cap).size, (bytesRow y cap).size + 1))).drew).heap.size ∧
    ∀ (j : Nat) (h : j < y.size), ((w.alloc (.cells (bytesRow y cap) e ((bytesRow y cap).size, (bytesRow y cap).size + 1))).drew).cell? ⟨w.heap.size, j, none⟩ = some (.int .u8 ((y[j]).toNat : Int)) ∧ ((w.alloc (.cells (bytesRow y cap) e ((bytesRow y cap).size, (bytesRow y cap).size + 1))).drew).frozen? ⟨w.heap.size, j, none⟩ = false := by
  obtain ⟨R, hR⟩ : ∃ R, R = bytesRow y cap := ⟨_, rfl⟩
  have hsz : y.size ≤ R.size := by rw [hR]; unfold bytesRow; simp
  have hget : ∀ (j : Nat) (h : j < y.size), R[j]? = some (.int .u8 ((y[j]).toNat : Int)) := fun j h => by rw [hR]; exact bytesRow_get h
  rw [← hR]
  refine ⟨(bl_alloc (Below.refl _ _) _).drew, ?_⟩
  have hh : ((w.alloc (.cells R e (R.size, R.size + 1))).drew).heap[w.heap.size]? = some (.cells R e (R.size, R.size + 1)) := by
    show (w.heap.push (.cells R e (R.size, R.size + 1)))[w.heap.size]? = _
    simp
  generalize ((w.alloc (.cells R e (R.size, R.size + 1))).drew) = W at hh ⊢
  have hlt := (Array.getElem?_eq_some_iff.1 hh).1
  refine ⟨hlt, fun j h => ⟨?_, ?_⟩⟩
  · simp [World.cell?, hh, hget j h]
  · simp only [World.frozen?, hh]
    simp
    omega
theorem spoil {x y : ByteArray} (hy : y = sealS x) (hno : hasC 35 x = false) {k : Nat} (hk : k < y.size) {u : UInt8} (hne : (u.toNat : Int) ≠ ((y[k]).toNat : Int)) : ∃ Z : ByteArray, Z.data.toList = y.data.toList.set k u ∧ Z.size = y.size ∧ veB Z = false := by
  refine ⟨⟨(y.data.toList.set k u).toArray⟩, by simp, by show (y.data.toList.set k u).toArray.size = _; rw [List.size_toArray, List.length_set]; simp, ?_⟩
  refine ve_spoilt (x := x) (k := k) (u := u) hno (by rw [← hy]; exact hk) (fun e => ?_) (by rw [← hy])
  have e2 : y.data.toList[k]? = some (y[k]'hk) := by rw [List.getElem?_eq_getElem (by simpa using hk)]; rfl
  have e3 : y.data.toList[k]? = some u := by rw [← e, ← sealS_list, ← hy]
  rw [e3] at e2
  injection e2 with e2
  exact hne (by rw [e2])
theorem conv_set {W : World} {y Z : ByteArray} {G k cp : Nat} {u : UInt8} (hall : ∀ (j : Nat) (h : j < y.size), W.cell? ⟨G, j, none⟩ = some (.int .u8 ((y[j]).toNat : Int))) (hk : k < y.size) (hZ : Z.data.toList = y.data.toList.set k u) :
    (convert 29 9 (.slice (some ⟨G, 0, none⟩) y.size cp)).run Tryd.prog (W.setCell ⟨G, k, none⟩ (.int .u8 (u.toNat : Int))) = .ok (.string Z) (W.setCell ⟨G, k, none⟩ (.int .u8 (u.toNat : Int))) := by
  have h := run_convert_bytes_back (P := Tryd.prog) (W.setCell ⟨G, k, none⟩ (.int .u8 (u.toNat : Int))) 29 9 5 ⟨G, 0, none⟩ cp (y.data.toList.set k u) Tryd.underlying29 Tryd.underlying5 Tryd.underlying9 (fun j hj => by
    have hj2 : j < y.size := by simpa using hj
    have e : (⟨G, 0, none⟩ : Addr).add j = ⟨G, j, none⟩ := by simp [Addr.add]; intro h; exact h.symm
    rw [e]
    by_cases hjk : k = j
    · subst hjk
      rw [World.cell?_setCell_same _ _ _ (hall k hk)]
      simp
    · rw [World.cell?_setCell_other _ _ _ _ (by intro e; injection e with _ e2; exact hjk e2), hall j hj2, List.getElem_set_ne hjk]
      rfl)
  rw [List.length_set] at h
  have e1 : (⟨(y.data.toList.set k u).toArray⟩ : ByteArray) = Z := ba_eq (by rw [hZ])
  rw [e1] at h
  have e2 : y.data.toList.length = y.size := by simp
  rw [e2] at h
  exact h
set_option maxHeartbeats 4000000 in
set_option maxRecDepth 100000 in
theorem walkStrings (w : World) {A : Option Addr} {n c : Nat} {bs : List Int} (hA : BytesArg w A n c bs) (ht : Tab w) (he : Sent w) : Calls Tryd.prog 7 #[.slice A n c] w fun e w' => e = .returned (.bool true) ∧ Below w.heap.size w w' := by
  obtain ⟨hcc, hcm, hS, hx⟩ := hA
  unfold maxLen at hcm
  have HT := hid ht
  have HE := hid he
  clear ht he
  by_cases hn : n ≤ 65536
  · have HS := hid hS
    have HX := hid hx
    clear hS hx
    go_enter Tryd.func7, Tryd.ntmps7
    go_wp2_with fail
    go_in
    go_wp2_with fail
    refine (drawFmt_any _ HS.out HX.out (by omega)).mono ?_
    rintro e w1 ⟨v, rfl, hv0, hv1, hb1⟩
    have H1 := hid hb1
    clear hb1
    obtain ⟨s, hs⟩ : ∃ s, s = fmS v := ⟨_, rfl⟩
    obtain ⟨ok, hok⟩ : ∃ s, s = fmB v := ⟨_, rfl⟩
    have P1 := hid (fun w' h => implFormatInt v w' h)
    have P2 := hid (fun w' => specFormatInt v w')
    rw [← hs, ← hok] at P1 P2
    have hback : ok = true → rdK s = true ∧ rdV s = v := fun h => by
      rw [hok] at h
      have e1 : s = numS v := by rw [hs]; unfold fmS; rw [h]; rfl
      have := rdVK_some (rdN_iff.2 ⟨fmB_bd h, rfl⟩ : rdN (numS v) = some v)
      rw [e1]; exact ⟨this.2, this.1⟩
    have hss : s.size ≤ 1048576 := by
      rw [hs]; unfold fmS
      cases g : fmB v
      · rw [if_neg (by decide)]; decide
      · have := (numS_size (fmB_bd g)).2
        rw [if_pos rfl]; omega
    obtain ⟨bv, hbv⟩ : ∃ z, z = rdV s := ⟨_, rfl⟩
    obtain ⟨bk, hbk⟩ : ∃ z, z = rdK s := ⟨_, rfl⟩
    have P7 := hid (fun w' h h2 => implParseInt s w' h h2 hss)
    rw [← hbv, ← hbk] at P7 hback
    clear hbv hbk hs hok hss
    go_wp2_with fail
    refine (P1.out _ (HT.out.on H1.out)).mono ?_
    rintro e w2 ⟨rfl, hb2⟩
    have H2 := hid (bl_then H1.out hb2)
    clear hb2
    go_wp2_with fail
    refine (P2.out _).mono ?_
    rintro e w3 ⟨rfl, hb3⟩
    have H3 := hid (bl_then H2.out hb3)
    have HS3 : Hid (Sees elU w3 w3.heap.size A n bs) := (HS.out.grow H3.out).more H3.out.size
    clear hb3
    go_wp2_with fail
    refine (drawPar_any _ HS3.out HX.out (by omega)).mono ?_
    rintro e w4 ⟨t, rfl, hts, hb4⟩
    have H4 := hid (bl_then H3.out hb4)
    clear hb4 HS3
    obtain ⟨m, hm⟩ : ∃ z, z = rdV t := ⟨_, rfl⟩
    obtain ⟨fi, hfi⟩ : ∃ z, z = rdK t := ⟨_, rfl⟩
    have P3 := hid (fun w' h h2 => implParseInt t w' h h2 hts)
    have P4 := hid (fun w' => specParseInt t w' hts)
    rw [← hm, ← hfi] at P3 P4
    clear hm hfi hts
    go_wp2_with fail
    refine (P3.out _ (HT.out.on H4.out) (HE.out.on H4.out)).mono ?_
    rintro e w5 ⟨rfl, hb5⟩
    have H5 := hid (bl_then H4.out hb5)
    clear hb5
    go_wp2_with fail
    refine (P4.out _).mono ?_
    rintro e w6 ⟨rfl, hb6⟩
    have H6 := hid (bl_then H5.out hb6)
    have HS6 : Hid (Sees elU w6 w6.heap.size A n bs) := (HS.out.grow H6.out).more H6.out.size
    clear hb6
    go_wp2_with fail
    refine (drawApp_any _ HS6.out HX.out (by omega)).mono ?_
    rintro e w7 ⟨x, rfl, hxs, hb7⟩
    have H7 := hid (bl_then H6.out hb7)
    clear hb7 HS6
    obtain ⟨y, hy⟩ : ∃ z, z = apS x := ⟨_, rfl⟩
    obtain ⟨se, hse⟩ : ∃ z, z = apB x := ⟨_, rfl⟩
    have P5 := hid (fun w' h => implAppendChecksum x w' h hxs)
    have P6 := hid (fun w' => specAppendChecksum x w' hxs)
    rw [← hy, ← hse] at P5 P6
    have HY := hid hy
    have HSE := hid hse
    clear hy hse
    go_wp2_with fail
    refine (P5.out _ (HT.out.on H7.out)).mono ?_
    rintro e w8 ⟨rfl, hb8⟩
    have H8 := hid (bl_then H7.out hb8)
    clear hb8
    go_wp2_with fail
    refine (P6.out _).mono ?_
    rintro e w9 ⟨rfl, hb9⟩
    have H9 := hid (bl_then H8.out hb9)
    clear hb9
    have htt : (s.toList == s.toList) = true := beq_self_eq_true _
    go_wp2_with fail
    refine (P7.out _ (HT.out.on H9.out) (HE.out.on H9.out)).mono ?_
    rintro e w10 ⟨rfl, hb10⟩
    have H10 := hid (bl_then H9.out hb10)
    clear hb10 H1 H2 H3 H4 H5 H6 H7 H8 H9 P1 P2 P3 P4 P5 P6 P7
    cases se
    · have hy0 : y = ⟨#[]⟩ := by rw [HY.out]; unfold apS; rw [← HSE.out]; rfl
      subst hy0
      cases ok
      · go_wp2_with fail
        go_ret
        exact ⟨rfl, H10.out⟩
      · obtain ⟨rfl, rfl⟩ := hback rfl
        go_wp2_with fail
        go_ret
        exact ⟨rfl, H10.out⟩
    · have hA := HSE.out.symm
      have hyS : y = sealS x := by rw [HY.out]; unfold apS; rw [hA]; rfl
      obtain ⟨v1, v2⟩ := ve_seal hA
      have hyz : y.size ≤ 4000 := by
        rw [hyS]
        unfold apB at hA
        rw [Bool.and_eq_true, Bool.and_eq_true, decide_eq_true_eq, decide_eq_true_eq] at hA
        exact hA.2.2
      have hy1 : 1 ≤ y.size := by rw [hyS, seal_size]; omega
      have P8 := hid (fun w' h => implVerify_any y w' h (by omega))
      have hno : hasC 35 x = false := by
        unfold apB at hA
        rw [Bool.and_eq_true, Bool.and_eq_true, Bool.not_eq_true'] at hA
        exact hA.2.1
      rw [hyS] at P8
      rw [v1, v2] at P8
      rw [← hyS] at P8
      have HYS := hid hyS
      have HNO := hid hno
      clear hyS hA v1 v2 hno
      have hcv := fun W => run_bytes_of_string (P := Tryd.prog) W 9 29 5 y Tryd.underlying9 Tryd.underlying29 Tryd.underlying5
      have hb2 : ok = false ∨ (ok = true ∧ bk = true ∧ bv = v) := by
        cases ok
        · exact .inl rfl
        · exact .inr ⟨rfl, hback rfl⟩
      clear hback
      rcases hb2 with rfl | ⟨rfl, rfl, rfl⟩
      all_goals
        go_wp2_with fail
        refine (P8.out _ (HT.out.on H10.out)).mono ?_
        rintro e w11 ⟨rfl, hb11⟩
        have H11 := hid (bl_then H10.out hb11)
        clear hb11
        go_wp2_with fail
        obtain ⟨cp, hcp⟩ : ∃ cp, cp = grownCap w11 y.size 0 5 := ⟨_, rfl⟩
        rw [← hcp]
        clear hcp
        obtain ⟨hW1, hW2, hW3⟩ := bytes_world w11 y cp 5
        obtain ⟨G, hG⟩ : ∃ G, G = w11.heap.size := ⟨_, rfl⟩
        rw [← hG] at hW2 hW3 ⊢
        have HG : Hid (w.heap.size ≤ G) := by unfold Hid; rw [hG]; exact H11.out.size
        generalize ((w11.alloc (.cells (bytesRow y cp) 5 ((bytesRow y cp).size, (bytesRow y cp).size + 1))).drew) = W12 at *
        have H12 := hid (bl_then H11.out hW1)
        clear hG hW1
        have HS12 : Hid (Sees elU W12 W12.heap.size A n bs) := (HS.out.grow H12.out).more H12.out.size
        refine (vAt_any 9 _ HS12.out HX.out (by omega) (by decide)).mono ?_
        rintro e w13 ⟨rfl, rfl⟩
        have hk9 := vatI_bd (i := 9) HS12.out.len HX.out
        have hk10 := vatI_bd (i := 10) HS12.out.len HX.out
        go_wp2_with fail
        obtain ⟨k, hk⟩ : ∃ k : Nat, vatI bs n 9 % (y.size : Int) = (k : Int) := ⟨(vatI bs n 9 % (y.size : Int)).toNat, by have := Int.emod_nonneg (vatI bs n 9) (show (y.size : Int) ≠ 0 by omega); omega⟩
        have hkl : k < y.size := by have := Int.emod_lt_of_pos (vatI bs n 9) (show 0 < (y.size : Int) by omega); omega
        rw [hk]
        have hcK := (hW3 k hkl).1
        have hfK := (hW3 k hkl).2
        have hcL : W12.drew.cell? ⟨G, k, none⟩ = some (.int .u8 ((y[k]).toNat : Int)) := hcK
        have hfL : W12.drew.frozen? ⟨G, k, none⟩ = false := hfK
        obtain ⟨d, hd⟩ : ∃ d, d = 1 + vatI bs n 10 % 255 := ⟨_, rfl⟩
        have hd1 : 1 ≤ d ∧ d ≤ 255 := by omega
        have hby := (y[k]).toNat_lt
        obtain ⟨u, hu1, hu2⟩ := xor_u8 (a := ((y[k]).toNat : Int)) (d := d) (by omega) hd1
        have C10 : ∀ w', Cls W12 w' → Calls Tryd.prog 20 #[.slice A n c, .int .i64 10] w' fun e w2 => e = .returned (.int .i64 (vatI bs n 10)) ∧ w2 = w' := fun w' hw => (vAt_any 10 w' (HS12.out.grow hw) HX.out (by omega) (by decide)).mono fun _ _ ⟨h1, h2⟩ => ⟨h1, h2.symm⟩
        have HC10 := hid C10
        have HU := hid hu2
        have iw1 : (vatI bs n 10).tmod 255 = vatI bs n 10 % 255 := Int.tmod_eq_emod_of_nonneg hk10.1
        have iw2 : IntKind.i64.wrap (1 + vatI bs n 10 % 255) = d := by rw [← hd]; exact IntWalk.i64_in _ (by omega)
        have iw3 : IntKind.u8.wrap d = d := by rw [IntKind.wrap_u8]; omega
        clear hk C10 hu2 hd
        refine wp_region_still_tail 12 (by kernel_rfl) (by kernel_rfl) ?_
        simp only [List.take_succ_cons, List.take_zero, List.drop_succ_cons, List.drop_zero]
        iterate 7 still_step
        still_call (HC10.out _ (Cls.drew _))
        iterate 4 still_step
        refine wpStill_nil ?_
        change wpList _ _ _ _ _ W12.drew
        have HALL : Hid (∀ (j : Nat) (h : j < y.size), W12.drew.cell? ⟨G, j, none⟩ = some (.int .u8 ((y[j]).toNat : Int))) := fun j h => (hW3 j h).1
        have H13 : Hid (Below w.heap.size w W12.drew) := H12.out.drew
        have HG2 : Hid (G < W12.drew.heap.size) := hW2
        clear hW3 hW2 hcK hfK HS12 H12 HC10 iw1 iw2 iw3
        generalize W12.drew = W13 at *
        obtain ⟨Z, hZ, hZs, hbad⟩ := spoil HYS.out HNO.out hkl HU.out
        have P9 := hid (fun w' h => implVerify_any Z w' h (by omega))
        obtain ⟨zz, hzz⟩ : ∃ q, q = veS Z := ⟨_, rfl⟩
        rw [hbad, ← hzz] at P9
        have hcv2 := conv_set (cp := cp) HALL.out hkl hZ
        clear hZ hZs hzz hbad HALL
        go_wp2_with fail
        have H14 := hid (bl_set H13.out (p := ⟨G, k, none⟩) (.int .u8 (u.toNat : Int)) HG.out)
        refine (P9.out _ (HT.out.on H14.out)).mono ?_
        rintro e w15 ⟨rfl, hb15⟩
        have H15 := hid (bl_then H14.out hb15)
        clear hb15 hcv2 hcL hfL
        go_wp2_with fail
        go_ret
        exact ⟨rfl, H15.out⟩
  · clear hS hx
    go_enter Tryd.func7, Tryd.ntmps7
    go_wp2_with go_in
    go_ret
    exact ⟨rfl, Below.refl _ _⟩
end Go.Proofs.YtonndpcmadnpmaaDoor
/- FnStrings, the tied card: the law returns true at every input; memory that was there reads as it did. Conditions: the listed tables of the library read as the program lays them, which the card ties to its text. -/
namespace Go.Proofs.YtonndpcmadnpmaaDoor.fnStrings
open Go.ChangeShapes Go.WideShapes Go.ChangeAt Go.RowKit Go.Deep
open Go.ChangeMaps (open_string shut_string)
theorem own : ownKnob Tryd.prog.godebug = none := by kernel_rfl
theorem laidOut : laidOutB Tryd.prog = true := by kernel_rfl
theorem reads : Tryd.f7.params.toList.all (fun t => Tryd.prog.readableRec t && decide (t < Tryd.prog.types.size)) = true := by kernel_rfl
theorem plain {H : Type} (ds : List (DataW H)) (h : ds.length = Tryd.f7.params.toList.length) : (Rows.fnStringsSpec.fn H ds).results = [.lit (.bool true)] ∧ (Rows.fnStringsSpec.fn H ds).args = ds ∧ (Rows.fnStringsSpec.fn H ds).vars = [] := by
  rw [Tryd.params7] at h
  match ds, h with
  | [d0], _ => exact ⟨rfl, rfl, rfl⟩
theorem met {W : World} (h : laidMetH Tryd.prog Rows.fnStringsRow.laid W) : laidMet Tryd.prog Rows.fnStringsRow.laid W := by
  rw [MakeChecks.laidMetH_plain _ _ _ (by kernel_rfl)] at h
  exact h
theorem tab {W : World} (h : laidMetH Tryd.prog Rows.fnStringsRow.laid W) : Tab W := tab_of_laid (met h)
theorem laid_met (os : Os) : laidMet Tryd.prog Rows.fnStringsRow.laid (((World.doorLaid Tryd.prog 62 os)).forCall (fun _ _ => 0) ⟨#[], #[Value.slice none 0 0], []⟩).memory :=
  laidMet_of_run' 8 (by kernel_rfl) (by kernel_rfl)
theorem reads0 (os : Os) {H : Type} (enc : TypeId × Value → H) : ∃ places, DataW.whole enc Tryd.prog (((World.doorLaid Tryd.prog 62 os)).forCall (fun _ _ => 0) ⟨#[], #[Value.slice none 0 0], []⟩).memory Tryd.f7.params.toList Rows.fnStringsSpec.vars false (#[Value.slice none 0 0]).toList 8 = some ([.nil], [], places) :=
  ⟨[], by kernel_rfl⟩
set_option maxRecDepth 100000 in
theorem lifted (os : Os) (started : os.Started) (H : Type) (enc : TypeId × Value → H) (F : Stop.Interp) :
    ReturnsInHanded {} Tryd.checked os 7 .any ((OpenSpec.ofChange Rows.fnStringsSpec).preRow enc Tryd.prog Tryd.f7 Rows.fnStringsRow.domain false Rows.fnStringsRow.laid) (((OpenSpec.ofChange Rows.fnStringsSpec).at F).post enc Tryd.prog Tryd.f7 false true false false) := by
  obtain ⟨places, hx⟩ := reads0 os enc
  refine returnsInHanded_of_row (C := Tryd.checked) (s := OpenSpec.ofChange Rows.fnStringsSpec) own started (by kernel_rfl) Tryd.func7
    (witness_row_atRef (enc := enc) (C := Tryd.checked) false (World.doorLaid Tryd.prog 62 os) #[Value.slice none 0 0] rfl (by kernel_rfl) (by kernel_rfl) (by kernel_rfl)
      (OpenSpec.preRow_of_cond 8 hx (by kernel_rfl) (fun k hk => by cases hk) (by kernel_rfl) (laid_met os))) ?_
  intro W base args ds gs before hval0 hW _ _ _ hL hSh _
  have hval : ∀ (j : Nat) t v, Tryd.f7.params[j]? = some t → args[j]? = some v → Value.okWide Tryd.prog W .any base t v := hval0
  have hT := tab hL
  have hE := sent_of_laid (met hL)
  refine law_contract (P := Tryd.prog) laidOut reads rfl Tryd.underlying4 rfl plain W args ds gs before hW (fun p hA => ?_)
  clear hval0 hW
  rw [Tryd.params7] at hA hval
  obtain ⟨v0, vs0, d0, ds0, p0, q0, hargs, rfl, rfl, h0, r0⟩ := trodAll_cons hA
  obtain ⟨rfl, rfl, rfl⟩ := trodAll_nil r0
  obtain rfl : args = #[v0] := by cases args; simp_all
  obtain ⟨A0, n0, c0, x0, rfl, w0⟩ := open_bytes (hval 0 29 v0 rfl rfl) h0
  exact walkStrings W w0 hT hE
theorem said : Rows.FnStringsSaid :=
  OpenClaim.holds_of_cond 7 Tryd.f7 rfl rfl rfl rfl rfl rfl rfl ⟨rfl, rfl, rfl, rfl, rfl⟩ rfl rfl rfl rfl rfl (by kernel_rfl) Tryd.func7 (by kernel_rfl)
    (of_decide_eq_true (by kernel_rfl)) (by unfold Func.isWrapper; first | (rw [if_pos (by decide +kernel)]; kernel_rfl) | (rw [if_neg (by decide +kernel)]; exact ⟨rfl, rfl⟩))
    (fun os started H enc _ F => by rw [OpenClaim.pre_eq_preRow]; exact lifted os started H enc F)
theorem plain7 (f : FuncId) (fn : Func) (hf : Tryd.pinned.checked.prog.funcNamed Rows.fnStringsRow.func = some f) (hfn : Tryd.pinned.checked.prog.funcs[f]? = some fn) :
    true = Tryd.pinned.checked.prog.looks [] ∧ ∀ (j : Nat) t, fn.params[j]? = some t → Tryd.pinned.checked.prog.wantsStandIn t = false := by
  obtain rfl : f = 7 := Option.some.inj ((show Tryd.prog.funcNamed Rows.fnStringsRow.func = some 7 by kernel_rfl).symm.trans hf) |>.symm
  obtain rfl : fn = Tryd.f7 := (Option.some.inj (Tryd.func7.symm.trans hfn)).symm
  refine ⟨by kernel_rfl, fun j t ht => ?_⟩
  rw [Tryd.params7] at ht
  have hm := List.mem_of_getElem? (l := [29]) (by simpa using ht)
  have hall : ([29].all fun u => !Tryd.prog.wantsStandIn u) = true := by kernel_rfl
  exact (show Tryd.prog.wantsStandIn t = false by simpa using List.all_eq_true.1 hall t hm)
theorem proved : Rows.FnStringsCardSaid :=
  Claim7.holds_tied_plain_at .later [] _ _ _ _ said (fun _ h => by cases h) (by kernel_rfl) (fun _ h => by cases h) fnStrings_row_tie rfl ⟨rfl, rfl⟩ (by kernel_rfl) rfl plain7 (by kernel_rfl)
#print axioms proved
end Go.Proofs.YtonndpcmadnpmaaDoor.fnStrings
