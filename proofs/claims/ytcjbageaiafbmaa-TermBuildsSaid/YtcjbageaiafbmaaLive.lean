/-
  The chapter's examples, which every statement of the layer requires: live returns true.
-/
import Derived.Test.YtcjbageaiafbmaaAtom
import Derived.Test.YtcjbageaiafbmaaGround
import Derived.Test.YtcjbageaiafbmaaMake
import Derived.Test.YtcjbageaiafbmaaCompR
import Derived.Test.YtcjbageaiafbmaaOrd
namespace Go.Proofs.Ytcjbageaiafbmaa
open Go.RowKit

theorem two_slice {w : World} {t u : T} {cs ds : Array Value} (h : VT w t (.agg cs)) (k : VT w u (.agg ds)) (ty : TypeId) (g : Nat) (hg : w.heap.size = g) : SlT (w.alloc (.cells (cs ++ ds) ty)) [t, u] (.slice (some ⟨g, 0, none⟩) 2 2) :=
  ⟨some ⟨g, 0, none⟩, 2, (cs ++ ds).toList, rfl, by simp, by omega, Rd.newAt _ _ _ _ hg, by
    rw [Array.toList_append]
    exact CL.cons (h.ct.ext ((Ext.rfl' w).al _)) (CL.single (k.ct.ext ((Ext.rfl' w).al _)))⟩

/-- The cells of a box, at a block that is spelled otherwise. -/
theorem box_at (w : World) (cs : Array Value) (t : TypeId) (j : Nat) (u : Value) (g : Nat) (hg : w.heap.size = g) (h : cs[j]? = some u) : (w.alloc (.cells cs t)).cell? ⟨g, j, none⟩ = some u := by
  subst hg; exact box_cells w cs t j u h

theorem isName_one {c : UInt8} (h : isLow c.toNat = true) : isName ⟨#[c]⟩ = true := by
  have hW : isWord ⟨#[c]⟩ = true := isWord_all (s := ⟨#[c]⟩) (show 0 < 1 by decide) (show ¬ 40 < 1 by decide) (by
    intro j hj _
    have : j = 0 := by
      have : (ByteArray.mk #[c]).size = 1 := rfl
      omega
    subst this
    exact low_W h)
  have hR : reserved ⟨#[c]⟩ = false := by
    unfold reserved
    simp [Lib.toList_data]
  unfold isName
  rw [hW, hR]
  have h0 : (ByteArray.mk #[c]).get! 0 = c := rfl
  rw [h0, h]
  rfl
/-- f(V0, 3). -/
def exT : T := .mk 2 0 ⟨#[102]⟩ [.mk 1 0 ⟨#[]⟩ [], .mk 0 3 ⟨#[]⟩ []]
theorem ex_form : formT exT = true := by
  have hn : isName ⟨#[102]⟩ = true := isName_one (by decide)
  simp [exT, formT, formL, hn]
theorem ex_right : rightT exT = true := by
  unfold rightT
  rw [ex_form]
  decide
theorem ex_ground : groundT exT = false := by decide
theorem ex_same : sameT exT exT = true := by unfold sameT; rw [cmp_self]; rfl
theorem ex_cmp : cmpT (.mk 1 7 ⟨#[]⟩ []) (.mk 0 3 ⟨#[]⟩ []) = -1 := by decide
theorem ex_atom : rightA ⟨⟨#[112]⟩, []⟩ = true := by
  have hn : isName ⟨#[112]⟩ = true := isName_one (by decide)
  simp [rightA, hn, rightL, formL, sizeL, depthL]
theorem ex_goal : rightG ⟨1, ⟨#[]⟩, []⟩ = true := by
  simp [rightG, rightL, formL, sizeL, depthL, arityG]

set_option maxRecDepth 100000 in
set_option maxHeartbeats 1000000 in
theorem live_any (w : World) : Calls Try.prog 13 #[] w (Ret w (Is (.bool true))) := by
  go_enter Try.func13, Try.ntmps13
  go_wp2_with fail
  refine (var_any 0 (by unfold I64; omega) _).mono ?_
  obtain ⟨t0, g0⟩ : ∃ t, T.mk 1 0 ⟨#[]⟩ [] = t := ⟨_, rfl⟩
  obtain ⟨t1, g1⟩ : ∃ t, T.mk 0 3 ⟨#[]⟩ [] = t := ⟨_, rfl⟩
  obtain ⟨t2, g2⟩ : ∃ t, T.mk 2 0 ⟨#[102]⟩ [t0, t1] = t := ⟨_, rfl⟩
  have g3 : Hid (t2 = exT) := Lib.hid (by rw [← g2, ← g0, ← g1]; rfl)
  have g3 : Hid (t2 = exT) := Lib.hid (by rw [← g2, ← g0, ← g1]; rfl)
  
  
  
  rw [g0]
  rintro e w1 ⟨v, rfl, hv, he1⟩
  obtain ⟨sl, rfl, hs1, -⟩ := VT.open_ hv
  go_wp2_with fail
  refine (int_any 3 (by unfold I64; omega) _).mono ?_
  rw [g1]
  rintro e w2 ⟨v, rfl, hv2, he2⟩
  obtain ⟨sl2, rfl, hs2, -⟩ := VT.open_ hv2
  have hsl := two_slice (VT.ext hv he2) hv2 24 _ rfl
  have HE := hide (fun o => (he1.tr he2).al o)
  go_wp2_with fail
  refine (fun_any ⟨#[102]⟩ [t0, t1] _ (Lib.hid (by decide)) _ hsl).mono ?_
  rw [g2]
  clear hs1 hs2 hv hv2 hsl
  rintro e w3 ⟨v, rfl, hv3, he3⟩
  have hE3 := hide (((unhide HE) _).tr he3)
  obtain ⟨sl3, rfl, hs3, -⟩ := VT.open_ hv3
  have hw : Hid (wt t2 ≤ 100) := Lib.hid (by rw [g3.out]; decide)
  clear he3 HE
  obtain ⟨A, c, xs, rfl, -⟩ := hs3
  have R1 := Lib.hid (g3 ▸ ex_right)
  have R2 : Hid (sizeT t2 = 3) := Lib.hid (by rw [g3.out]; decide)
  have R3 : Hid (depthT t2 = 2) := Lib.hid (by rw [g3.out]; decide)
  have R4 := Lib.hid (g3 ▸ ex_ground)
  have R5 := Lib.hid (g3 ▸ ex_same)
  have R1 := Lib.hid (g3 ▸ ex_right)
  have R2 : Hid (sizeT t2 = 3) := Lib.hid (by rw [g3.out]; decide)
  have R3 : Hid (depthT t2 = 2) := Lib.hid (by rw [g3.out]; decide)
  have R4 := Lib.hid (g3 ▸ ex_ground)
  have R5 := Lib.hid (g3 ▸ ex_same)
  have R1 := Lib.hid (g3 ▸ ex_right)
  have R2 : Hid (sizeT t2 = 3) := Lib.hid (by rw [g3.out]; decide)
  have R3 : Hid (depthT t2 = 2) := Lib.hid (by rw [g3.out]; decide)
  have R4 := Lib.hid (g3 ▸ ex_ground)
  have R5 := Lib.hid (g3 ▸ ex_same)
  have R1 := Lib.hid (g3.out ▸ ex_right)
  have R2 : Hid (sizeT t2 = 3) := Lib.hid (by rw [g3.out]; decide)
  have R3 : Hid (depthT t2 = 2) := Lib.hid (by rw [g3.out]; decide)
  have R4 := Lib.hid (g3.out ▸ ex_ground)
  have R5 := Lib.hid (g3.out ▸ ex_same)
  have R1 := Lib.hid (g3.out ▸ ex_right)
  have R2 : Hid (sizeT t2 = 3) := Lib.hid (by rw [g3.out]; decide)
  have R3 : Hid (depthT t2 = 2) := Lib.hid (by rw [g3.out]; decide)
  have R4 := Lib.hid (g3.out ▸ ex_ground)
  have R5 := Lib.hid (g3.out ▸ ex_same)
  have hC := hide (fun (w' : World) (e : Ext (w3.alloc (.cells #[.int .i64 t2.k, .int .i64 t2.i, .string t2.s, .slice A t2.ar.length c] 24)) w') => (VT.ext hv3 ((Ext.al (Ext.rfl' w3) _).tr e) : VT w' t2 _))
  have hZ0 := hide (fun (w' : World) (e : Ext (w3.alloc (.cells #[.int .i64 t2.k, .int .i64 t2.i, .string t2.s, .slice A t2.ar.length c] 24)) w') => (e.cellOf (box_cells w3 #[.int .i64 t2.k, .int .i64 t2.i, .string t2.s, .slice A t2.ar.length c] 24 0 _ rfl) : w'.cell? _ = some (.int .i64 t2.k)))
  have hZ1 := hide (fun (w' : World) (e : Ext (w3.alloc (.cells #[.int .i64 t2.k, .int .i64 t2.i, .string t2.s, .slice A t2.ar.length c] 24)) w') => (e.cellOf (box_cells w3 #[.int .i64 t2.k, .int .i64 t2.i, .string t2.s, .slice A t2.ar.length c] 24 1 _ rfl) : w'.cell? _ = some (.int .i64 t2.i)))
  have hZ2 := hide (fun (w' : World) (e : Ext (w3.alloc (.cells #[.int .i64 t2.k, .int .i64 t2.i, .string t2.s, .slice A t2.ar.length c] 24)) w') => (e.cellOf (box_cells w3 #[.int .i64 t2.k, .int .i64 t2.i, .string t2.s, .slice A t2.ar.length c] 24 2 _ rfl) : w'.cell? _ = some (.string t2.s)))
  have hZ3 := hide (fun (w' : World) (e : Ext (w3.alloc (.cells #[.int .i64 t2.k, .int .i64 t2.i, .string t2.s, .slice A t2.ar.length c] 24)) w') => (e.cellOf (box_cells w3 #[.int .i64 t2.k, .int .i64 t2.i, .string t2.s, .slice A t2.ar.length c] 24 3 _ rfl) : w'.cell? _ = some (.slice A t2.ar.length c)))
  clear hv3 g3 g2 g1 g0
  have hE4 := hide ((unhide hE3).al (.cells #[.int .i64 t2.k, .int .i64 t2.i, .string t2.s, .slice A t2.ar.length c] 24))
  go_wp2_with fail
  refine (right_any 100 (by omega) t2 _ _ hw.out ((unhide hC) _ (Ext.rfl' _))).mono ?_
  rw [R1.out]
  rintro e w4 ⟨v, rfl, hv, he4⟩
  obtain rfl : v = _ := hv
  have HX4 := hide he4
  clear he4
  have z0 := (unhide hZ0) _ (unhide HX4)
  have z1 := (unhide hZ1) _ (unhide HX4)
  have z2 := (unhide hZ2) _ (unhide HX4)
  have z3 := (unhide hZ3) _ (unhide HX4)
  go_wp2_with fail
  clear z0 z1 z2 z3
  refine (size_any 100 t2 _ _ hw.out (by omega) ((unhide hC) _ (unhide HX4))).mono ?_
  rw [R2.out]
  rintro e w5 ⟨v, rfl, hv, he5⟩
  obtain rfl : v = _ := hv
  have HX5 := hide ((unhide HX4).tr he5)
  clear he5
  have z0 := (unhide hZ0) _ (unhide HX5)
  have z1 := (unhide hZ1) _ (unhide HX5)
  have z2 := (unhide hZ2) _ (unhide HX5)
  have z3 := (unhide hZ3) _ (unhide HX5)
  go_wp2_with fail
  clear z0 z1 z2 z3
  refine (depth_any 100 t2 _ _ hw.out (by omega) ((unhide hC) _ (unhide HX5))).mono ?_
  rw [R3.out]
  rintro e w6 ⟨v, rfl, hv, he6⟩
  obtain rfl : v = _ := hv
  have HX6 := hide ((unhide HX5).tr he6)
  clear he6
  have z0 := (unhide hZ0) _ (unhide HX6)
  have z1 := (unhide hZ1) _ (unhide HX6)
  have z2 := (unhide hZ2) _ (unhide HX6)
  have z3 := (unhide hZ3) _ (unhide HX6)
  go_wp2_with fail
  clear z0 z1 z2 z3
  refine (ground_any 100 (by omega) t2 _ _ hw.out ((unhide hC) _ (unhide HX6))).mono ?_
  rw [R4.out]
  rintro e w7 ⟨v, rfl, hv, he7⟩
  obtain rfl : v = _ := hv
  have HX7 := hide ((unhide HX6).tr he7)
  clear he7
  have z0 := (unhide hZ0) _ (unhide HX7)
  have z1 := (unhide hZ1) _ (unhide HX7)
  have z2 := (unhide hZ2) _ (unhide HX7)
  have z3 := (unhide hZ3) _ (unhide HX7)
  go_wp2_with fail
  clear z0 z1 z2 z3
  refine (same_any 100 (by omega) t2 t2 _ _ _ hw.out ((unhide hC) _ (unhide HX7)) ((unhide hC) _ (unhide HX7))).mono ?_
  rw [R5.out]
  rintro e w8 ⟨v, rfl, hv, he8⟩
  obtain rfl : v = _ := hv
  have HX8 := hide ((unhide HX7).tr he8)
  clear he8
  have z0 := (unhide hZ0) _ (unhide HX8)
  have z1 := (unhide hZ1) _ (unhide HX8)
  have z2 := (unhide hZ2) _ (unhide HX8)
  have z3 := (unhide hZ3) _ (unhide HX8)
  go_wp2_with fail
  clear z0 z1 z2 z3
  have HA := hide ((unhide hE4).tr (unhide HX8))
  clear hC hZ0 hZ1 hZ2 hZ3 HX4 HX5 HX6 HX7 HX8 hE4 hE3 R1 R2 R3 R4 R5 hw
  have R6 := Lib.hid ex_cmp
  obtain ⟨t7, g0⟩ : ∃ t, T.mk 1 7 ⟨#[]⟩ [] = t := ⟨_, rfl⟩
  obtain ⟨t8, g1⟩ : ∃ t, T.mk 0 3 ⟨#[]⟩ [] = t := ⟨_, rfl⟩
  have h7 : Hid (wt t7 ≤ 100) := Lib.hid (by rw [← g0]; decide)
  refine (var_any 7 (by unfold I64; omega) _).mono ?_
  rw [g0]
  rintro e w9 ⟨v, rfl, hv, he1⟩
  obtain ⟨sl, rfl, hs1, -⟩ := VT.open_ hv
  go_wp2_with fail
  refine (int_any 3 (by unfold I64; omega) _).mono ?_
  rw [g1]
  rintro e w10 ⟨v, rfl, hv2, he2⟩
  obtain ⟨sl2, rfl, hs2, -⟩ := VT.open_ hv2
  have hvv := VT.ext hv he2
  rw [g0, g1] at R6
  go_wp2_with fail
  refine (compare_any 100 (by omega) t7 t8 _ _ _ h7.out hvv hv2).mono ?_
  rw [R6.out]
  rintro e w11 ⟨v, rfl, hv, he3⟩
  obtain rfl : v = _ := hv
  have HB := hide ((((unhide HA).tr he1).tr he2).tr he3)
  clear hs1 hs2 hvv he1 he2 he3 HA R6 h7 hv2 g0 g1
  go_wp2_with fail
  refine (rightAtom_any 100 (by omega) ⟨⟨#[112]⟩, []⟩ _ _ (by simp [wtL]) (VA.mk ⟨none, 0, [], rfl, by simp, by omega, Rd.nil _ _, CL.nil _⟩ (by decide))).mono ?_
  rw [ex_atom]
  rintro e w12 ⟨v, rfl, hv, he4⟩
  obtain rfl : v = _ := hv
  go_wp2_with fail
  refine (rightGoal_any 100 (by omega) ⟨1, ⟨#[]⟩, []⟩ _ _ (by simp [wtL]) (VG.mk ⟨none, 0, [], rfl, by simp, by omega, Rd.nil _ _, CL.nil _⟩ (by unfold I64; omega) (by decide))).mono ?_
  rw [ex_goal]
  rintro e w13 ⟨v, rfl, hv, he5⟩
  obtain rfl : v = _ := hv
  go_wp2
  go_ret
  exact Ret.mk rfl (((unhide HB).tr he4).tr he5)
end Go.Proofs.Ytcjbageaiafbmaa
