/- szRoute, toRoute, eqRoute; IsValidRoute and RouteNodes of both sides, walked. Conditions: at most 1048576 fibers. -/
import Derived.Test.YtdnmkcalpfkfhaaRows
import Derived.Test.YtdnmkcalpfkfhaaWalkRt
import Derived.Test.YtdnmkcalpfkfhaaMarkI
import Derived.Test.YtdnmkcalpfkfhaaSzN
import Derived.Test.YtdnmkcalpfkfhaaOpenI
namespace Go.Proofs.Ytdnmkcalpfkfhaa
open Go.RowKit
/-- The nodes of a route. -/
def routeL (xs : List ByteArray) (fs : List Fib) (s : Int) (ids : List Int) : List Int := if goodB xs fs then rtL xs.length fs s ids else []
section
variable {n c m d kr er : Nat} {A A' R : Option Addr} {xs : List ByteArray} {fs : List Fib} {ids : List Int}
set_option maxRecDepth 100000 in
theorem szIntS_any (left : Int) (w : World) (hn : kr ≤ maxLen) (h0 : 0 ≤ left) (hl : left ≤ 1048576) :
    Calls Try.prog 56 #[.slice R kr er, .int .i64 left] w fun e w' => e = .returned (.int .i64 (lessI left kr)) ∧ w = w' := by
  unfold maxLen at hn
  by_cases hs : (kr : Int) ≤ left
  · have HN := hid (lessI_pos hs)
    go_enter Try.func56, Try.ntmps56
    go_wp2
    go_ret
    exact ⟨by rw [HN.out]; rfl, rfl⟩
  · have HN := hid (lessI_neg (left := left) (t := kr) (by omega))
    go_enter Try.func56, Try.ntmps56
    go_wp2
    go_ret
    exact ⟨by rw [HN.out]; rfl, rfl⟩
set_option maxRecDepth 100000 in
theorem szRoute_any (s left : Int) (w : World) (hn : kr ≤ maxLen) (h0 : 0 ≤ left) (hl : left ≤ 1048576) :
    Calls Try.prog 16 #[.agg #[.int .i64 s, .slice R kr er], .int .i64 left] w fun e w' => e = .returned (.int .i64 (lessI left kr)) ∧ Below w.heap.size w w' := by
  rcases lessI_bd (left := left) (t := kr) with ⟨h1, _⟩ | ⟨h1, h2, _⟩
  · have HS := hid h1
    clear h1
    go_enter Try.func16, Try.ntmps16
    go_wp2_with fail
    refine (szIntS_any left _ hn h0 hl).mono ?_
    rintro e w' ⟨rfl, rfl⟩
    rw [HS.out]
    go_wp2_with fail
    go_ret
    exact ⟨by rw [HS.out]; rfl, bl_alloc (Below.refl _ _) _⟩
  · obtain ⟨r, hr⟩ : ∃ r, r = lessI left kr := ⟨_, rfl⟩
    have HR := hid hr
    rw [← hr] at h1 h2
    clear hr
    go_enter Try.func16, Try.ntmps16
    go_wp2_with fail
    refine (szIntS_any left _ hn h0 hl).mono ?_
    rintro e w' ⟨rfl, rfl⟩
    rw [← HR.out]
    go_wp2_with fail
    go_ret
    exact ⟨by rw [← HR.out]; rfl, bl_alloc (Below.refl _ _) _⟩
set_option maxHeartbeats 1000000 in
set_option maxRecDepth 100000 in
theorem toRoute_any {B : Nat} (s : Int) (w : World) (hR : Sees elInt w B R kr ids) (hB : B ≤ w.heap.size) (hk : kr ≤ 1048576) :
    Calls Try.prog 19 #[.agg #[.int .i64 s, .slice R kr er]] w fun e w' => ∃ R1 e1, e = .returned (.agg #[.int .i64 s, .slice R1 kr e1]) ∧ kr ≤ e1 ∧ Owns elInt w' w.heap.size 3 (.slice R1 kr e1) ids ∧ Below w.heap.size w w' := by
  go_enter Try.func19, Try.ntmps19
  go_wp2_with fail
  have hb0 : Below w.heap.size w (((w.alloc (.cells #[.int .i64 s, .slice R kr er] 28)).alloc (.cells #[.int .i64 0, .slice none 0 0] 37)).alloc (.cells #[.int .i64 s, .slice none 0 0] 37)) := bl_alloc (bl_alloc (bl_alloc (Below.refl _ _) _) _) _
  have b2 : Blk (((w.alloc (.cells #[.int .i64 s, .slice R kr er] 28)).alloc (.cells #[.int .i64 0, .slice none 0 0] 37)).alloc (.cells #[.int .i64 s, .slice none 0 0] 37)) (w.heap.size + 1) 37 #[.int .i64 0, .slice none 0 0] := by
    have := (Blk.new (w.alloc (.cells #[.int .i64 s, .slice R kr er] 28)) 37 #[.int .i64 0, .slice none 0 0]).alloc (.cells #[.int .i64 s, .slice none 0 0] 37)
    simpa using this
  have b3 : Blk (((w.alloc (.cells #[.int .i64 s, .slice R kr er] 28)).alloc (.cells #[.int .i64 0, .slice none 0 0] 37)).alloc (.cells #[.int .i64 s, .slice none 0 0] 37)) (w.heap.size + 1 + 1) 37 #[.int .i64 s, .slice none 0 0] := by
    have := Blk.new ((w.alloc (.cells #[.int .i64 s, .slice R kr er] 28)).alloc (.cells #[.int .i64 0, .slice none 0 0] 37)) 37 #[.int .i64 s, .slice none 0 0]
    simpa using this
  have hR0 := hR.below (hb0.mono hB)
  generalize ((w.alloc (.cells #[.int .i64 s, .slice R kr er] 28)).alloc (.cells #[.int .i64 0, .slice none 0 0] 37)).alloc (.cells #[.int .i64 s, .slice none 0 0] 37) = w0 at *
  refine (toIntS_any (xs := ids) w0 hR0 hk).mono ?_
  rintro e w1 ⟨v, he, hown, hb1⟩
  obtain ⟨R1, e1, hv, hle, _⟩ := hown.form
  rw [hR.len] at hv hle
  subst hv; subst he
  have b2' := bl_at hb1 b2.lt b2
  have b3' := bl_at hb1 b3.lt b3
  have hbw1 := bl_then hb0 hb1
  have ho1 := (((hown.far (p := ⟨w.heap.size + 1 + 1, 1, none⟩) b3.lt (.slice R1 kr e1)).far (p := ⟨w.heap.size + 1, 0, none⟩) b2.lt (.int .i64 s)).far (p := ⟨w.heap.size + 1, 1, none⟩) b2.lt (.slice R1 kr e1)).base (base' := w.heap.size) hb0.size
  have hb6 := bl_set (bl_set (bl_set hbw1 (p := ⟨w.heap.size + 1 + 1, 1, none⟩) (.slice R1 kr e1) (by show w.heap.size ≤ w.heap.size + 1 + 1; omega)) (p := ⟨w.heap.size + 1, 0, none⟩) (.int .i64 s) (by show w.heap.size ≤ w.heap.size + 1; omega)) (p := ⟨w.heap.size + 1, 1, none⟩) (.slice R1 kr e1) (by show w.heap.size ≤ w.heap.size + 1; omega)
  have q0 := b3'.cell 0
  have q1 := b3'.cell 1
  have q2 := b2'.cell 0
  have q3 := b2'.cell 1
  have z1 := b3'.frozen 1
  have z2 := b2'.frozen 0
  have z3 := b2'.frozen 1
  simp at q0 q1 q2 q3
  clear b2' b3' b2 b3 hown hb1 hbw1 hR0 hb0
  go_wp2_with fail
  exact bodyPost_ret (v := .agg #[.int .i64 s, .slice R1 kr e1]) (by simp [results, Try.results19, go_sem, q2, q3]) rfl ⟨_, _, rfl, hle, ho1, hb6⟩
set_option maxHeartbeats 1000000 in
set_option maxRecDepth 100000 in
theorem eqRoute_any {B B' e2 : Nat} {R2 : Option Addr} (s : Int) (w : World) (h1 : Sees elInt w B R kr ids) (h2 : Sees elInt w B' R2 kr ids) (hk : kr ≤ 1048576) :
    Calls Try.prog 23 #[.agg #[.int .i64 s, .slice R kr er], .agg #[.int .i64 s, .slice R2 kr e2]] w fun e w' => e = .returned (.bool true) ∧ Below w.heap.size w w' := by
  have hb0 : Below w.heap.size w ((w.alloc (.cells #[.int .i64 s, .slice R kr er] 37)).alloc (.cells #[.int .i64 s, .slice R2 kr e2] 37)) := bl_alloc (bl_alloc (Below.refl _ _) _) _
  have k1 := h1.grow hb0
  have k2 := h2.grow hb0
  go_enter Try.func23, Try.ntmps23
  go_wp2_with fail
  refine (eqIntS_any _ k1 k2 hk).mono ?_
  rintro e w1 ⟨rfl, q, rfl⟩
  go_wp2_with fail
  go_ret
  exact ⟨rfl, bl_drewN hb0 q⟩
set_option maxHeartbeats 1000000 in
set_option maxRecDepth 100000 in
theorem l4Good_any (s : Int) (w : World) (h : NetIs w A n c A' m d xs fs) (hr : RtIs w R kr er ids) :
    Calls Try.prog 57 #[.agg #[.slice A n c, .slice A' m d], .agg #[.int .i64 s, .slice R kr er]] w fun e w' => e = .returned (.bool (routeB xs fs s ids)) ∧ Below w.heap.size w w' := by
  have hb0 := bl_alloc (bl_alloc (Below.refl w.heap.size w) (.cells #[.slice A n c, .slice A' m d] 35)) (.cells #[.int .i64 s, .slice R kr er] 37)
  have hx0 : Blk ((w.alloc (.cells #[.slice A n c, .slice A' m d] 35)).alloc (.cells #[.int .i64 s, .slice R kr er] 37)) w.heap.size 35 #[.slice A n c, .slice A' m d] := (Blk.new _ _ _).alloc _
  have hy0 : Blk ((w.alloc (.cells #[.slice A n c, .slice A' m d] 35)).alloc (.cells #[.int .i64 s, .slice R kr er] 37)) (w.heap.size + 1) 37 #[.int .i64 s, .slice R kr er] := by
    have := Blk.new (w.alloc (.cells #[.slice A n c, .slice A' m d] 35)) 37 #[.int .i64 s, .slice R kr er]
    simpa using this
  have h0 := h.grow hb0
  have hr0 := hr.grow hb0
  cases g : goodB xs fs
  · have H : Hid (routeB xs fs s ids = false) := by unfold Hid routeB; rw [g]; rfl
    go_enter Try.func57, Try.ntmps57
    go_wp2_with fail
    refine (goodN _ h0).mono ?_
    rintro e w1 ⟨rfl, hb1⟩
    rw [g]
    go_wp2_with fail
    go_ret
    exact ⟨by rw [H.out]; rfl, bl_then hb0 hb1⟩
  · have H : Hid (routeB xs fs s ids = rtB n fs s ids) := by unfold Hid routeB; rw [g, h.xlen]; rfl
    go_enter Try.func57, Try.ntmps57
    go_wp2_with fail
    refine (goodN _ h0).mono ?_
    rintro e w1 ⟨rfl, hb1⟩
    rw [g]
    have p0 := (hx0.below hb1 hx0.lt).cell 0
    have p1 := (hx0.below hb1 hx0.lt).cell 1
    have p2 := (hy0.below hb1 hy0.lt).cell 0
    have p3 := (hy0.below hb1 hy0.lt).cell 1
    simp at p0 p1 p2 p3
    go_wp2_with fail
    refine (l4Walk_any s w1 (h0.grow hb1) (hr0.grow hb1)).mono ?_
    rintro e w2 ⟨v2, rfl, _, hb2⟩
    go_wp2_with fail
    go_ret
    exact ⟨by rw [H.out]; rfl, bl_then (bl_then hb0 hb1) hb2⟩
set_option maxRecDepth 100000 in
theorem specIsValidRoute (s : Int) (w : World) (h : NetIs w A n c A' m d xs fs) (hr : RtIs w R kr er ids) :
    Calls Try.prog 47 #[.agg #[.slice A n c, .slice A' m d], .agg #[.int .i64 s, .slice R kr er]] w fun e w' => e = .returned (.bool (routeB xs fs s ids)) ∧ Below w.heap.size w w' := by
  have hb0 := bl_alloc (bl_alloc (Below.refl w.heap.size w) (.cells #[.slice A n c, .slice A' m d] 35)) (.cells #[.int .i64 s, .slice R kr er] 37)
  have hx0 : Blk ((w.alloc (.cells #[.slice A n c, .slice A' m d] 35)).alloc (.cells #[.int .i64 s, .slice R kr er] 37)) w.heap.size 35 #[.slice A n c, .slice A' m d] := (Blk.new _ _ _).alloc _
  have hy0 : Blk ((w.alloc (.cells #[.slice A n c, .slice A' m d] 35)).alloc (.cells #[.int .i64 s, .slice R kr er] 37)) (w.heap.size + 1) 37 #[.int .i64 s, .slice R kr er] := by
    have := Blk.new (w.alloc (.cells #[.slice A n c, .slice A' m d] 35)) 37 #[.int .i64 s, .slice R kr er]
    simpa using this
  have h0 := h.grow hb0
  have hr0 := hr.grow hb0
  go_enter Try.func47, Try.ntmps47
  go_wp2_with fail
  refine (l4Good_any s _ h0 hr0).mono ?_
  rintro e w1 ⟨rfl, hb1⟩
  go_wp2_with fail
  go_ret
  exact ⟨rfl, bl_then hb0 hb1⟩
set_option maxHeartbeats 1000000 in
set_option maxRecDepth 100000 in
theorem implRouteNodes (s : Int) (w : World) (h : NetIs w A n c A' m d xs fs) (hr : RtIs w R kr er ids) :
    Calls Try.prog 20 #[.agg #[.slice A n c, .slice A' m d], .agg #[.int .i64 s, .slice R kr er]] w fun e w' => ∃ v, e = .returned (.tuple #[v, .bool (routeB xs fs s ids)]) ∧ Owns elInt w' w.heap.size 3 v (routeL xs fs s ids) ∧ Below w.heap.size w w' := by
  have hb0 := bl_alloc (bl_alloc (Below.refl w.heap.size w) (.cells #[.slice A n c, .slice A' m d] 35)) (.cells #[.int .i64 s, .slice R kr er] 37)
  have hx0 : Blk ((w.alloc (.cells #[.slice A n c, .slice A' m d] 35)).alloc (.cells #[.int .i64 s, .slice R kr er] 37)) w.heap.size 35 #[.slice A n c, .slice A' m d] := (Blk.new _ _ _).alloc _
  have hy0 : Blk ((w.alloc (.cells #[.slice A n c, .slice A' m d] 35)).alloc (.cells #[.int .i64 s, .slice R kr er] 37)) (w.heap.size + 1) 37 #[.int .i64 s, .slice R kr er] := by
    have := Blk.new (w.alloc (.cells #[.slice A n c, .slice A' m d] 35)) 37 #[.int .i64 s, .slice R kr er]
    simpa using this
  have h0 := h.grow hb0
  have hr0 := hr.grow hb0
  cases g : goodB xs fs
  · have H : Hid (routeB xs fs s ids = false ∧ routeL xs fs s ids = []) := by unfold Hid routeB routeL; rw [g]; exact ⟨rfl, rfl⟩
    go_enter Try.func20, Try.ntmps20
    go_wp2_with fail
    refine (validN _ h0).mono ?_
    rintro e w1 ⟨rfl, hb1⟩
    rw [g]
    go_wp2_with fail
    go_ret2
    exact ⟨_, by rw [H.out.1]; rfl, by rw [H.out.2]; exact World.ownsRow_nil _ _ _ _, bl_then hb0 hb1⟩
  · have H : Hid (routeB xs fs s ids = rtB n fs s ids ∧ routeL xs fs s ids = rtL n fs s ids) := by unfold Hid routeB routeL; rw [g, h.xlen]; exact ⟨rfl, rfl⟩
    go_enter Try.func20, Try.ntmps20
    go_wp2_with fail
    refine (validN _ h0).mono ?_
    rintro e w1 ⟨rfl, hb1⟩
    rw [g]
    have p0 := (hx0.below hb1 hx0.lt).cell 0
    have p1 := (hx0.below hb1 hx0.lt).cell 1
    have p2 := (hy0.below hb1 hy0.lt).cell 0
    have p3 := (hy0.below hb1 hy0.lt).cell 1
    simp at p0 p1 p2 p3
    go_wp2_with fail
    refine (visited_any s w1 (h0.grow hb1) (hr0.grow hb1)).mono ?_
    rintro e w2 ⟨v2, rfl, ho2, hb2⟩
    have hbw := bl_then hb0 hb1
    have HO := hid ho2
    clear ho2
    go_wp2_with fail
    go_ret2
    exact ⟨_, by rw [H.out.1]; rfl, by rw [H.out.2]; exact HO.out.base hbw.size, bl_then hbw hb2⟩
set_option maxRecDepth 100000 in
theorem implIsValidRoute (s : Int) (w : World) (h : NetIs w A n c A' m d xs fs) (hr : RtIs w R kr er ids) :
    Calls Try.prog 68 #[.agg #[.slice A n c, .slice A' m d], .agg #[.int .i64 s, .slice R kr er]] w fun e w' => e = .returned (.bool (routeB xs fs s ids)) ∧ Below w.heap.size w w' := by
  have hb0 := bl_alloc (bl_alloc (Below.refl w.heap.size w) (.cells #[.slice A n c, .slice A' m d] 35)) (.cells #[.int .i64 s, .slice R kr er] 37)
  have hx0 : Blk ((w.alloc (.cells #[.slice A n c, .slice A' m d] 35)).alloc (.cells #[.int .i64 s, .slice R kr er] 37)) w.heap.size 35 #[.slice A n c, .slice A' m d] := (Blk.new _ _ _).alloc _
  have hy0 : Blk ((w.alloc (.cells #[.slice A n c, .slice A' m d] 35)).alloc (.cells #[.int .i64 s, .slice R kr er] 37)) (w.heap.size + 1) 37 #[.int .i64 s, .slice R kr er] := by
    have := Blk.new (w.alloc (.cells #[.slice A n c, .slice A' m d] 35)) 37 #[.int .i64 s, .slice R kr er]
    simpa using this
  have h0 := h.grow hb0
  have hr0 := hr.grow hb0
  go_enter Try.func68, Try.ntmps68
  go_wp2_with fail
  refine (implRouteNodes s _ h0 hr0).mono ?_
  rintro e w1 ⟨v1, rfl, _, hb1⟩
  go_wp2_with fail
  go_ret
  exact ⟨rfl, bl_then hb0 hb1⟩
end
end Go.Proofs.Ytdnmkcalpfkfhaa
