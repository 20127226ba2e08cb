/-
  term.Occurs: a variable has a place in a term.
-/
import Derived.Test.YtcjbageaiafbmaaGround
namespace Go.Proofs.Ytcjbageaiafbmaa
open Go.RowKit Go.Shelf
attribute [local go_sem] Oper.semAt_some

theorem occurs_any (d : Nat) (hd : d ≤ 1000000) (x : Int) (t : T) (v : Value) (w : World) (hn : wt t ≤ d) (hv : VT w t v) : Calls Try.prog 45 #[.int .i64 x, v] w (Ret w (Is (.bool (decide (x ∈ occT t))))) := by
  obtain ⟨sl, rfl, hs, -⟩ := hv.open_
  obtain ⟨A, c, xs, rfl, -⟩ := hs
  refine (callsIn_wide (n := 3)).1 ?_
  refine callsIn_of_wp_marks Try.func45 rfl trivial ?_ rfl
  simp only [Try.ntmps45, List.size_toArray, List.length_cons, List.length_nil, Nat.reduceAdd, Nat.reduceSub, Array.replicate_succ, Array.replicate_zero, List.push_toArray, List.append_toArray, List.nil_append, List.cons_append]
  gi_wp2_with fail
  refine ⟨trivial, (callsIn_wide.2 (each_any _ _ _ _ _ rfl)).mono ?_⟩
  rintro e w1 ⟨rfl, rfl⟩
  gi_wp2
  have hvE : Ext w (((w.alloc (.cells #[.int .i64 x] 3)).alloc (.cells #[.int .i64 t.k, .int .i64 t.i, .string t.s, .slice A t.ar.length c] 24)).alloc (.cells #[.bool false] 4)) := (((Ext.rfl' w).al _).al _).al _
  have hsl := (one_slice (hv.ext hvE) 24 (w.heap.size + 1 + 1 + 1) (by simp)).ext ((Ext.rfl' _).al (.cells #[.slice (some ⟨w.heap.size + 1 + 1 + 1, 0, none⟩) 1 1] 22))
  obtain ⟨W0, hW0⟩ : ∃ W0, (((((w.alloc (.cells #[.int .i64 x] 3)).alloc (.cells #[.int .i64 t.k, .int .i64 t.i, .string t.s, .slice A t.ar.length c] 24)).alloc (.cells #[.bool false] 4)).alloc (.cells #[.int .i64 t.k, .int .i64 t.i, .string t.s, .slice A t.ar.length c] 24)).alloc (.cells #[.slice (some ⟨w.heap.size + 1 + 1 + 1, 0, none⟩) 1 1] 22)) = W0 := ⟨_, rfl⟩
  have hE : Ext w W0 := by rw [← hW0]; exact (hvE.al _).al _
  have hz : W0.heap.size = w.heap.size + 1 + 1 + 1 + 1 + 1 := by rw [← hW0]; simp
  have hR : Boxed W0 (w.heap.size + 1 + 1) 4 (.bool false) := by
    rw [← hW0]
    have := boxed2 (w.alloc (.cells #[.int .i64 x] 3)) (.cells #[.int .i64 t.k, .int .i64 t.i, .string t.s, .slice A t.ar.length c] 24) 4 (.bool false)
    simp only [World.size_alloc] at this
    exact (this.alloc _).alloc _
  have hV : Boxed W0 w.heap.size 3 (.int .i64 x) := by rw [← hW0]; exact ((((Boxed.new w _ _).alloc _).alloc _).alloc _).alloc _
  have hX : W0.cell? ⟨w.heap.size + 1 + 1 + 1 + 1, 0, none⟩ = some (.slice (some ⟨w.heap.size + 1 + 1 + 1, 0, none⟩) 1 1) := by
    rw [← hW0]
    exact (by
      have := Boxed.new ((((w.alloc (.cells #[.int .i64 x] 3)).alloc (.cells #[.int .i64 t.k, .int .i64 t.i, .string t.s, .slice A t.ar.length c] 24)).alloc (.cells #[.bool false] 4)).alloc (.cells #[.int .i64 t.k, .int .i64 t.i, .string t.s, .slice A t.ar.length c] 24)) 22 (.slice (some ⟨w.heap.size + 1 + 1 + 1, 0, none⟩) 1 1)
      simpa using this : Boxed _ (w.heap.size + 1 + 1 + 1 + 1) _ _).cell
  rw [hW0] at hsl ⊢
  clear hW0
  have hB0 : Below w.heap.size w W0 := hE
  refine wpIn_rangeFunc_ownF rfl (by omega) (gf := 77) (lb := #[.pointer (some ⟨w.heap.size + 1 + 1 + 1 + 1, 0, none⟩)]) rfl trivial (enters_of Try.func77 (by kernel_rfl) rfl)
    (each_stops d hd 2 (w.heap.size + 1 + 1 + 1 + 1) [t] _ W0 (by simpa [wtL] using hn) hX hsl) belowK_t (belowK_b (by omega)) (Below.refl _ _) (fun _ => rfl)
    (fun pre W => (x ∉ pre ∧ W.cell? ⟨w.heap.size, 0, none⟩ = some (.int .i64 x) ∧ W.cell? ⟨w.heap.size + 1 + 1, 0, none⟩ = some (.bool false) ∧ W.frozen? ⟨w.heap.size + 1 + 1, 0, none⟩ = false) ∧ Below w.heap.size w W)
    (fun c pre W => (c = .ret ∧ x ∈ pre ∧ W.cell? ⟨w.heap.size + 1 + 1, 0, none⟩ = some (.bool true)) ∧ Below w.heap.size w W)
    (OwnFrom.and (Own.from (fun s A B row hs hg hr => ⟨hs.1, cell_kept hs.2.1 hg hr, cell_kept hs.2.2.1 hg hr, (frozen_kept hs.2.2.1 hg hr).trans hs.2.2.2⟩) _) (ownFrom_below (Nat.le_refl _) (by omega)))
    (fun c => OwnFrom.and (Own.from (fun s A B row hs hg hr => ⟨hs.1, hs.2.1, cell_kept hs.2.2 hg hr⟩) _) (ownFrom_below (Nat.le_refl _) (by omega)))
    ⟨⟨by simp, hV.cell, hR.cell, hR.frozen⟩, hB0⟩
    (fun y => { tmps := #[.int .i64 x, .agg #[.int .i64 t.k, .int .i64 t.i, .string t.s, .slice A t.ar.length c], .pointer (some ⟨w.heap.size, 0, none⟩), .pointer (some ⟨w.heap.size + 1, 0, none⟩), .pointer (some ⟨w.heap.size + 1 + 1, 0, none⟩), .int .i64 y, .agg #[.int .i64 t.k, .int .i64 t.i, .string t.s, .slice A t.ar.length c], .slice (some ⟨w.heap.size + 1 + 1 + 1, 0, none⟩) 1 1, .func (.func 77) #[] #[.pointer (some ⟨w.heap.size + 1 + 1 + 1 + 1, 0, none⟩)], .int .i64 y, undef, undef, undef], defers := [] }) ?assign ?body ?done ?stop
  case assign =>
    intro l y W K hK
    gi_wp2
    simpa using hK
  case body =>
    rintro l pre y W ⟨⟨hp, hcv, hcr, hfr⟩, hB⟩ _
    by_cases hxy : y = x
    · have hb : (y == x) = true := by simpa using hxy
      have HM : Hid (x ∈ pre ++ [y]) := Lib.hid (by simp [hxy])
      clear hxy
      gi_wp2
      refine ⟨KeepsOthers.setCell _ _ _, ⟨rfl, HM.out, World.cell?_setCell_same' _ _ _ (by rw [hcr]; rfl)⟩, hB.setCell (p := ⟨w.heap.size + 1 + 1, 0, none⟩) (by simp; omega) _⟩
    · have hb : (y == x) = false := by simpa using hxy
      have HM : Hid (x ∉ pre ++ [y]) := Lib.hid (by simp [hp]; exact fun h => hxy h.symm)
      clear hxy
      gi_wp2
      exact ⟨KeepsOthers.refl _, Below.refl _ _, ⟨HM.out, hcv, hcr, hfr⟩, hB⟩
  case done =>
    rintro D ys W hD rfl ⟨⟨hne, hcv, hcr, hfr⟩, hB⟩ hK
    rw [occL_one] at hne
    have HG : Hid (decide (x ∈ occT t) = false) := Lib.hid (by simp [hne])
    gi_wp2
    have hK' := (KeepsOthers.setCell W ⟨w.heap.size + 1 + 1, 0, none⟩ (.bool false)).same D _ hK rfl
    refine ⟨by simp, .inl ⟨_, _, rfl, run_takeDeferred hK', ?_⟩⟩
    have hc5 := cell_kept (World.cell?_setCell_same' W ⟨w.heap.size + 1 + 1, 0, none⟩ (.bool false) (by rw [hcr]; rfl)) (grownBy_putObj' _ D (.deferred none)) (fun r e => by cases e; exact ⟨_, hK', rfl⟩)
    refine ⟨.bool false, ?_, Ret.mk (HG.out ▸ rfl) ((hB.setCell (p := ⟨w.heap.size + 1 + 1, 0, none⟩) (by simp; omega) _).trans (belowK_b (w := w) (Nat.le_refl _) _ D _ _ (by omega) hK' rfl rfl))⟩
    simp [results, Try.f45, go_sem, hc5]
  case stop =>
    rintro D c pre W hD hpre ⟨⟨rfl, hin, hcr⟩, hB⟩ hK
    rw [occL_one] at hpre
    have HG : Hid (decide (x ∈ occT t) = true) := Lib.hid (by simpa using hpre.subset hin)
    gi_wp2
    refine ⟨by simp, .inl ⟨_, _, rfl, run_takeDeferred hK, ?_⟩⟩
    have hc5 := cell_kept hcr (grownBy_putObj' _ D (.deferred none)) (fun r e => by cases e; exact ⟨_, hK, rfl⟩)
    refine ⟨.bool true, ?_, Ret.mk (HG.out ▸ rfl) (hB.trans (belowK_b (w := w) (Nat.le_refl _) W D _ _ (by omega) hK rfl rfl))⟩
    simp [results, Try.f45, go_sem, hc5]
end Go.Proofs.Ytcjbageaiafbmaa
