/- slices.IndexFunc over rows, groupOf, walked. Conditions: none. -/
import Derived.Test.YtldheoomlagapaaGrpLaw
import Derived.Test.YtldheoomlagapaaEqSs
import Derived.Test.YtldheoomlagapaaIntL
namespace Go.Proofs.Ytldheoomlagapaa
open Go.RowKit
section
variable {n c : Nat} {A : Option Addr} {ss : List Sl} {rows : List (List Int)} {F : FuncId} {cap : Array Value}
set_option maxHeartbeats 1000000 in
set_option maxRecDepth 100000 in
theorem indexFuncSS_any (p : List Int → Bool) (w : World) (hA : SeesSS w A n ss rows) (hn : n ≤ 1048576)
    (hcall : ∀ args wr, (callFunc F args).run Try.prog wr = .ok (.enter F args) wr)
    (hF : ∀ (i : Nat) s r w', ss[i]? = some s → rows[i]? = some r → Cls w w' → Calls Try.prog F (#[.slice s.A s.n s.c] ++ cap) w' fun e w2 => e = .returned (.bool (p r)) ∧ Below w'.heap.size w' w2) :
    Calls Try.prog 108 #[.slice A n c, .func (.func F) #[] cap] w fun e w' => e = .returned (.int .i64 (findP p rows)) ∧ Below w.heap.size w w' := by
  have HF := hid hF
  have hlr : rows.length = n := by rw [← hA.2.1]; exact hA.1.len
  have HLR := hid hlr
  clear hF hlr
  go_enter Try.func108, Try.ntmps108
  go_wp2
  go_loopw [8] (fun i wr => ∃ k : Nat, k ≤ n ∧ i = .int .i64 k ∧ Hid (noneP p rows k) ∧ Below w.heap.size w wr) (fun i _ => n - (intOf i).toNat)
  case atStart => exact ⟨0, Nat.zero_le _, rfl, noneP_zero _ _, Below.refl _ _⟩
  case round =>
    obtain ⟨k, hk, rfl, hno, hb⟩ := hrel
    by_cases hlt : k < n
    · obtain ⟨b, o, rfl, _, hc⟩ := hA.1.at_ hlt
      obtain ⟨x, hxk⟩ := get_of (k := k) HLR.out hlt
      obtain ⟨s, hsk⟩ := get_of (k := k) hA.1.len hlt
      have hcx := bl_cell hb (hc k s hsk 0 _ rfl)
      simp only [elSl, Nat.mul_one, Nat.add_zero, slV] at hcx
      have HC := hid (HF.out k s x wr hsk hxk hb)
      clear hc
      go_wp2_with fail
      refine HC.out.mono ?_
      rintro e w' ⟨rfl, hb2⟩
      have hbb : Below w.heap.size w w' := bl_then hb hb2
      clear HC hcx hb hb2
      by_cases hp : p x = true
      · have HR := hid (findP_at hno.out hxk hp)
        clear hno hxk
        rw [hp]
        go_wp2_with fail
        go_ret
        exact ⟨by rw [HR.out]; rfl, hbb⟩
      · have hp' : p x = false := by simpa using hp
        have HR := hid (noneP_succ hno.out hxk hp')
        clear hno hxk
        rw [hp']
        go_wp2_with fail
        exact ⟨⟨k + 1, by omega, by go_num, HR, hbb⟩, by simp [intOf]; omega⟩
    · have HN := hid (findP_none (p := p) HLR.out (by obtain rfl : k = n := (by omega); exact hno.out))
      clear hno
      go_wp2
      go_ret
      exact ⟨by rw [HN.out]; rfl, hb⟩
end
section
variable {n c m d : Nat} {A A' : Option Addr} {xs : List ByteArray} {fs : List Fib}
set_option maxRecDepth 100000 in
theorem groupOfC (i : Int) {n c : Nat} {A : Option Addr} {r : List Int} (w : World) (g : Nat) (hg : Blk w g 3 #[.int .i64 i]) (hs : Sees elInt w w.heap.size A n r) (hn : n ≤ maxLen) :
    Calls Try.prog 109 #[.slice A n c, .pointer (some ⟨g, 0, none⟩)] w fun e w' => e = .returned (.bool (hasB r i)) ∧ Below w.heap.size w w' := by
  have q0 := hg.cell 0
  simp at q0
  go_enter Try.func109, Try.ntmps109
  go_wp2_with fail
  refine (containsI_any i _ hs hn).mono ?_
  rintro e w2 ⟨rfl, rfl⟩
  go_wp2_with fail
  go_ret
  exact ⟨rfl, Below.refl _ _⟩
theorem grp_small {r : List Int} (h : r ∈ groupsL fs) (hf : fs.length ≤ 1048576) : r.length ≤ 1048577 := by
  have := groups_row h; omega
set_option maxHeartbeats 1000000 in
set_option maxRecDepth 100000 in
theorem groupOf_any (i : Int) (w : World) (h : NetIs w A n c A' m d xs fs) (hm : m ≤ 1000000) :
    Calls Try.prog 82 #[.agg #[.slice A n c, .slice A' m d], .int .i64 i] w fun e w' => e = .returned (.int .i64 (grpI fs i)) ∧ Below w.heap.size w w' := by
  have hb0 := bl_alloc (bl_alloc (Below.refl w.heap.size w) (.cells #[.slice A n c, .slice A' m d] 30)) (.cells #[.int .i64 i] 3)
  have hx0 : Blk ((w.alloc (.cells #[.slice A n c, .slice A' m d] 30)).alloc (.cells #[.int .i64 i] 3)) (w.heap.size + 1) 3 #[.int .i64 i] := by
    have := Blk.new (w.alloc (.cells #[.slice A n c, .slice A' m d] 30)) 3 #[.int .i64 i]
    simpa using this
  have h0 := h.grow hb0
  have hfl := hid h.flen
  have HG : Hid (grpI fs i = findP (fun r => hasB r i) (groupsL fs)) := rfl
  go_enter Try.func82, Try.ntmps82
  go_wp2_with fail
  refine (groups_any _ h0).mono ?_
  rintro e w2 ⟨⟨A2, n2, c2⟩, ss, rfl, hs, hb2⟩
  dsimp only [slV] at hs ⊢
  have hx2 := hid (hx0.below hb2 hx0.lt)
  have hbw := bl_then hb0 hb2
  have hsees := hs.sees
  have hn2 : n2 = ss.length := by
    obtain ⟨_, _, hv, _⟩ := hs.1.form
    injection hv
  have hgl : Hid ((groupsL fs).length = ss.length) := hs.2.1.symm
  have hgb := groups_len fs
  rw [hgl.out, hfl.out] at hgb
  subst hn2
  have HS := hid hsees
  clear hs hsees
  go_wp2_with fail
  refine (indexFuncSS_any (cap := #[.pointer (some ⟨w.heap.size + 1, 0, none⟩)]) (fun r => hasB r i) _ HS.out (by omega) (fun _ _ => by rfl) (fun k s r w' h1 h2 hw' => by
    have a1 := (HS.out.grow hw').2.2 k s r h1 h2
    have a3 := grp_small (List.mem_of_getElem? h2) (by rw [hfl.out]; omega)
    exact groupOfC i w' (w.heap.size + 1) (hx2.out.below hw' hx2.out.lt) a1.2 (by rw [a1.1]; unfold maxLen; omega))).mono ?_
  rintro e w3 ⟨rfl, hb3⟩
  go_wp2_with fail
  go_ret
  exact ⟨by rw [HG.out]; rfl, bl_then hbw hb3⟩
end
end Go.Proofs.Ytldheoomlagapaa
